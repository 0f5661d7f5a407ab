/- Texts of this claim, one behind the other: ExO, Shf, LxA, LxB, NuU, NuS, NuT, NuV, LxC, LxN, LxD, LxE, LxF, LxG, BoP, BoA, ExR, ExS. -/
import Derived.Test.YtbcdaaobbebooaaGreatDoorLga
import Derived.Test.YtbcdaaobbebooaaGreatDoorLgb
import Derived.Test.YtbcdaaobbebooaaGreatDoorLgc
import Derived.Shelf.Strings.Builder1
import Derived.Shelf.Strings.Builder2
import Derived.Shelf.Strings.Trim
import Derived.Shelf.Small.Utf8
import Derived.Shelf.Small.Strs
import Derived.Shelf.Small.Wraps
import Derived.Shelf.Strings.BuilderF
import Derived.Shelf.LaysM
import Derived.Shelf.Strconv.Clone
import Derived.Shelf.Strings.Search1
import Derived.Shelf.Strings.Search2
import Derived.Shelf.Strings.Search3
import Derived.Shelf.Strings.Count
import Derived.Shelf.Strings.Shaped
import Derived.Shelf.Strings.Prefix
import Derived.Shelf.Strings.Runes
import Derived.Shelf.Strings.IndexAny
import Derived.Shelf.Strings.AsciiSet
import Derived.Shelf.Strings.IndexAnyAll
import Derived.Shelf.Bits.Mul64
import Derived.Shelf.Strings.Repeat
import Derived.Shelf.Unicode.DecodeSlow
import Derived.Test.YtbcdaaobbebooaaGreatDoorProg
import Derived.Lib.IndexAny
import Derived.Lib.Bytealg
import Derived.Lib.LaidTab
import Derived.IntWalk
import Derived.Lib.IndexLaws
import Derived.Lib.IndexMore
import Derived.Shelf.Strings.SlTrimAscii
import Derived.WalkMore
set_option linter.unusedSimpArgs false
set_option linter.unusedVariables false
namespace Go.Proofs.YtbcdaaobbebooaaGreatDoor
set_option maxRecDepth 100000
set_option maxHeartbeats 20000000
open Go.RowKit Go.Tab
theorem out_no (nt : Nt) (l : List Tok) (d : Nat) : (parX 0 nt l d).2.2 = -1 := by rw [parX]
theorem all_steps : ∀ m, ChoiceC m /\ TermC m /\ TightC m /\ PostC m /\ PrimeC m /\ ManyC m := by
 intro m
 induction m using Nat.strongRecOn with
 | ind m ih =>
  cases m with
  | zero =>
   refine ⟨?_, ?_, ?_, ?_, ?_, ?_⟩
   ·intro w g lv l k d _ _ hne; exact absurd (out_no _ _ _) hne
   ·intro w g lv l k d n bp bd bt _ _ _ _ _ hne; exact absurd (out_no _ _ _) hne
   ·intro w g lv l k d _ _ hne; exact absurd (out_no _ _ _) hne
   ·intro w g lv l k d _ _ hne; exact absurd (out_no _ _ _) hne
   ·intro w g lv l k d _ _ hne; exact absurd (out_no _ _ _) hne
   ·intro w g lv l k d s _ _ _ _ hne; exact absurd (out_no _ _ _) hne
  | succ m =>
   have hm := ih m (Nat.lt_succ_self m); have hc : ∀ j, j <= m -> ChoiceC j := fun j hj => (ih j (by omega)).1; have ht : ∀ j, j <= m -> TermC j := fun j hj => (ih j (by omega)).2.1; exact ⟨choice_step m hm.2.1 hm.1, term_step m hm.2.2.1 ht, tight_step m hm.2.2.1 hm.2.2.2.1, post_step m hm.2.2.2.2.1 hc, prime_step m hm.2.2.2.2.2 hm.1, many_step m hc⟩
def parE (l : List Tok) : GotX := if 1000 < l.length then (zeroX, 1000, 4) else if (parX (fuelX .choice l) .choice l 0).2.2 = 0 then parX (fuelX .choice l) .choice l 0 else (zeroX, (parX (fuelX .choice l) .choice l 0).2)
def ParX (w : World) (r : GotX) (e : Ending) (w' : World) : Prop :=
 Below w.heap.size w w' /\ ∃ o t a n c, e = .returned (.tuple #[exV o t (.slice a n c), .int .i64 (r.2.1 : Nat), .int .i64 r.2.2]) /\ ExpIn (fun b => w.heap.size <= b) w' r.1 (expV o t (.slice a n c))
theorem exprParse_any (w : World) (lv : Value) (l : List Tok) (h : ToksAt w lv l) (ho : ∀ b, lv.ownBlock = some b -> b < w.heap.size) (hT : Tab w) (hTg : 1 < w.heap.size) (hs : l.length <= 1000000) (hsh : ∀ t ∈ l, t.text.size <= 1048576) :
  Calls Tryz.prog 162 #[lv] w (ParX w (parE l)) := by
 obtain ⟨a0, c0, rfl, hl1, hl2, -⟩ := h.len; unfold maxLen at hl2
 by_cases hbig : 1000 < l.length
 ·have hR : parE l = (zeroX, 1000, 4) := by unfold parE; rw [if_pos hbig]
  have hq := Cells.new w zeroC 52; have HR := Lib.hid hR; clear hR; go_enter Tryz.func162, Tryz.ntmps162; go_wp2; have hx := hq.cell 0 _ rfl; have hy := hq.cell 1 _ rfl; have hz := hq.cell 2 _ rfl; refine bodyPost_ret (v := .tuple #[.agg #[.string ⟨#[]⟩, .string ⟨#[]⟩, .slice none 0 0], .int .i64 1000, .int .i64 4]) (by simp [results, Tryz.results162, go_sem, hx, hy, hz]) rfl ?_; rw [HR.out]; exact ⟨(Below.refl _ w).alloc (Nat.le_refl _) _, _, _, _, _, _, rfl, ExpIn.leaf _ _ _ _⟩
 ·have hf := parX_fine (fuelX .choice l) .choice l 0 (Nat.le_refl _) (by simp only [Nt.okX])
  have hR : parE l = if (parX (fuelX .choice l) .choice l 0).2.2 = 0 then parX (fuelX .choice l) .choice l 0 else (zeroX, (parX (fuelX .choice l) .choice l 0).2) := by unfold parE; rw [if_neg hbig]
  have hCC := (all_steps (fuelX .choice l)).1; have hne := hf.1; have hb2 : Below w.heap.size w ((w.alloc (.cells zeroC 52)).alloc (.cells #[.slice a0 l.length c0, .int .i64 0, .int .i64 0] 220)) := ((Below.refl _ w).alloc (Nat.le_refl _) _).alloc (by simp) _; have hq2 := (Cells.new w zeroC 52).alloc (.cells #[.slice a0 l.length c0, .int .i64 0, .int .i64 0] 220); have hp2 := Cells.new (w.alloc (.cells zeroC 52)) #[.slice a0 l.length c0, .int .i64 0, .int .i64 0] 220; simp only [World.size_alloc] at hp2
  have hP2 : Prs ((w.alloc (.cells zeroC 52)).alloc (.cells #[.slice a0 l.length c0, .int .i64 0, .int .i64 0] 220)) (w.heap.size + 1) (.slice a0 l.length c0) l 0 :=
   ⟨hp2, h.below hb2 (Nat.le_refl _), fun b hb => by have := ho b hb; omega, Nat.zero_le _, hs, fun j hj => (hb2.cell hTg).trans (hT j hj), by omega, hsh⟩
  have hDD := hCC _ _ _ l 0 0 hP2 (by omega) (by rw [List.drop_zero]; exact hne); rw [List.drop_zero] at hDD; have hle := hf.2.1; generalize parX (fuelX .choice l) .choice l 0 = r at *; obtain ⟨x1, n1, e1⟩ := r; simp only at hR hne hle; have HR := Lib.hid hR; clear hR hCC hP2 hp2 hf; go_enter Tryz.func162, Tryz.ntmps162; go_wp2_with fail; generalize (w.alloc (.cells zeroC 52)).alloc (.cells #[.slice a0 l.length c0, .int .i64 0, .int .i64 0] 220) = w2 at *; refine hDD.mono ?_; rintro _ w3 ⟨hs3, hc3, o, t, a, n, c, rfl, hX⟩; simp only [Nat.zero_add] at hc3 hX; have hq3 := hs3.cells hq2 (by omega); have hz2 := hq2.lt; have hw2 := hb2.size; have HB := Lib.hid (And.intro hb2 (And.intro hs3 hX)); clear hq2 hb2 hs3 hX hDD h ho; have hql := hq3.lt; have hgl := hc3.lt; have hQ3 := Lib.hid hq3; have hC3 := Lib.hid hc3; have hq3c0 := hq3.cell 0 _ rfl; have hq3f0 := hq3.frozen 0; have hq3c1 := hq3.cell 1 _ rfl; have hq3f1 := hq3.frozen 1; have hq3c2 := hq3.cell 2 _ rfl; have hq3f2 := hq3.frozen 2; have hc3c0 := hc3.cell 0 _ rfl; have hc3f0 := hc3.frozen 0; have hc3c1 := hc3.cell 1 _ rfl; have hc3f1 := hc3.frozen 1; have hc3c2 := hc3.cell 2 _ rfl; have hc3f2 := hc3.frozen 2; clear hq3 hc3
  by_cases he : e1 = 0
  ·subst he
   go_wp2_with fail; go_region
   go_wp2; have hqq := ((((((hQ3.out.setI 0 (.string o)).setI 1 (.string t)).setI 2 (.slice a n c)).setI 0 (.string o)).setI 1 (.string t)).setI 2 (.slice a n c)).drew; have hx := hqq.cell 0 _ rfl; have hy := hqq.cell 1 _ rfl; have hz := hqq.cell 2 _ rfl; refine bodyPost_ret (v := .tuple #[.agg #[.string o, .string t, .slice a n c], .int .i64 (n1 : Nat), .int .i64 0]) (by simp [results, Tryz.results162, go_sem, hx, hy, hz]) rfl ?_; obtain ⟨hb2, hs3, hX⟩ := HB.out; have hB9 := (setAll_below w.heap.size w.heap.size (Nat.le_refl _) [.string o, .string t, .slice a n c] 0 _ _ (setAll_below w.heap.size w.heap.size (Nat.le_refl _) [.string o, .string t, .slice a n c] 0 _ _ (hs3.chain hb2 (Nat.le_succ _)))).drew; show ParX w _ _ ((setAll (setAll w3 w.heap.size 0 [.string o, .string t, .slice a n c]) w.heap.size 0 [.string o, .string t, .slice a n c]).drew)
   have hX9 : ExpIn (fun b => w.heap.size <= b) (setAll (setAll w3 w.heap.size 0 [.string o, .string t, .slice a n c]) w.heap.size 0 [.string o, .string t, .slice a n c]) x1 (expV o t (.slice a n c)) := by
    refine ExpIn.move (P := fun b => w2.heap.size <= b) (w := w3) ?_ (fun b hb _ => ?_) (fun b hb _ => ?_) x1 _ (hX trivial)
    ·rw [setAll_size, setAll_size]; exact Nat.le_refl _
    ·rw [setAll_other _ _ _ _ _ (by omega), setAll_other _ _ _ _ _ (by omega)]
    ·show w.heap.size <= b
     omega
   rw [HR.out, if_pos trivial]; generalize setAll (setAll w3 w.heap.size 0 [.string o, .string t, .slice a n c]) w.heap.size 0 [.string o, .string t, .slice a n c] = w9 at *; exact ⟨hB9, o, t, a, n, c, rfl, ExpIn.below (Below.refl _ _).drew x1 _ hX9⟩
  ·have hen : (e1 != 0) = true := by simpa using he
   go_wp2_with fail; go_region
   go_wp2; have hqq := ((((((hQ3.out.setI 0 (.string o)).setI 1 (.string t)).setI 2 (.slice a n c)).setI 0 (.string ⟨#[]⟩)).setI 1 (.string ⟨#[]⟩)).setI 2 (.slice none 0 0)).drew; have hx := hqq.cell 0 _ rfl; have hy := hqq.cell 1 _ rfl; have hz := hqq.cell 2 _ rfl; refine bodyPost_ret (v := .tuple #[.agg #[.string ⟨#[]⟩, .string ⟨#[]⟩, .slice none 0 0], .int .i64 (n1 : Nat), .int .i64 e1]) (by simp [results, Tryz.results162, go_sem, hx, hy, hz]) rfl ?_; obtain ⟨hb2, hs3, hX⟩ := HB.out; have hB9 := (setAll_below w.heap.size w.heap.size (Nat.le_refl _) [.string ⟨#[]⟩, .string ⟨#[]⟩, .slice none 0 0] 0 _ _ (setAll_below w.heap.size w.heap.size (Nat.le_refl _) [.string o, .string t, .slice a n c] 0 _ _ (hs3.chain hb2 (Nat.le_succ _)))).drew; show ParX w _ _ ((setAll (setAll w3 w.heap.size 0 [.string o, .string t, .slice a n c]) w.heap.size 0 [.string ⟨#[]⟩, .string ⟨#[]⟩, .slice none 0 0]).drew); rw [HR.out, if_neg he]; exact ⟨hB9, _, _, _, _, _, rfl, ExpIn.leaf _ _ _ _⟩
end Go.Proofs.YtbcdaaobbebooaaGreatDoor
namespace Go.Proofs
set_option maxRecDepth 100000
set_option maxHeartbeats 20000000
open Go.Shelf
def Tryz.lays161_ren : Go.Shelf.Ren := ⟨fun | 161 => 179 | 231 => 204 | 227 => 186 | 233 => 205 | 235 => 206 | 228 => 198 | 197 => 225 | 151 => 211 | 260 => 235 | 152 => 196 | 137 => 87 | 119 => 224 | 224 => 214 | 225 => 213 | 217 => 121 | 266 => 151 | n => n, fun | 9 => 9 | 4 => 4 | 3 => 3 | 5 => 5 | 117 => 211 | 116 => 210 | 0 => 0 | 124 => 214 | 105 => 228 | 21 => 21 | 119 => 236 | 46 => 167 | 139 => 239 | 138 => 238 | n => n, fun | 3 => 4 | 4 => 5 | n => n⟩
theorem Tryz.lays161 : Go.Proofs.Lays.n161 Tryz.prog Tryz.lays161_ren := {
 mixed := by kernel_rfl
 f119 := Tryz.func224.trans (congrArg some (by kernel_rfl))
 f137 := Tryz.func87.trans (congrArg some (by kernel_rfl))
 f151 := Tryz.func211.trans (congrArg some (by kernel_rfl))
 f152 := Tryz.func196.trans (congrArg some (by kernel_rfl))
 f161 := Tryz.func179.trans (congrArg some (by kernel_rfl))
 f197 := Tryz.func225.trans (congrArg some (by kernel_rfl))
 f217 := Tryz.func121.trans (congrArg some (by kernel_rfl))
 f224 := Tryz.func214.trans (congrArg some (by kernel_rfl))
 f225 := Tryz.func213.trans (congrArg some (by kernel_rfl))
 f227 := Tryz.func186.trans (congrArg some (by kernel_rfl))
 f228 := Tryz.func198.trans (congrArg some (by kernel_rfl))
 f231 := Tryz.func204.trans (congrArg some (by kernel_rfl))
 f233 := Tryz.func205.trans (congrArg some (by kernel_rfl))
 f235 := Tryz.func206.trans (congrArg some (by kernel_rfl))
 f260 := Tryz.func235.trans (congrArg some (by kernel_rfl))
 f266 := Tryz.func151.trans (congrArg some (by kernel_rfl))
 t0 := Tryz.underlying0
 a0 := Tryz.isAgg0
 z0 := Tryz.sizeOf0
 v0 := Tryz.zeroValue0
 t3 := Tryz.underlying3
 a3 := Tryz.isAgg3
 z3 := Tryz.sizeOf3
 v3 := Tryz.zeroValue3
 t4 := Tryz.underlying4
 a4 := Tryz.isAgg4
 z4 := Tryz.sizeOf4
 v4 := Tryz.zeroValue4
 t5 := Tryz.underlying5
 a5 := Tryz.isAgg5
 z5 := Tryz.sizeOf5
 v5 := Tryz.zeroValue5
 t9 := Tryz.underlying9
 a9 := Tryz.isAgg9
 z9 := Tryz.sizeOf9
 v9 := Tryz.zeroValue9
 t21 := Tryz.underlying21
 a21 := Tryz.isAgg21
 z21 := Tryz.sizeOf21
 v21 := Tryz.zeroValue21
 t46 := Tryz.underlying167
 a46 := Tryz.isAgg167
 z46 := Tryz.sizeOf167
 v46 := Tryz.zeroValue167
 t105 := Tryz.underlying228
 a105 := Tryz.isAgg228
 z105 := Tryz.sizeOf228
 v105 := Tryz.zeroValue228
 t116 := Tryz.underlying210
 a116 := Tryz.isAgg210
 z116 := Tryz.sizeOf210
 t117 := Tryz.underlying211
 a117 := Tryz.isAgg211
 z117 := Tryz.sizeOf211
 v117 := Tryz.zeroValue211
 t119 := Tryz.underlying236
 a119 := Tryz.isAgg236
 z119 := Tryz.sizeOf236
 t124 := Tryz.underlying214
 a124 := Tryz.isAgg214
 z124 := Tryz.sizeOf214
 v124 := Tryz.zeroValue214
 t138 := Tryz.underlying238
 a138 := Tryz.isAgg238
 z138 := Tryz.sizeOf238
 v138 := Tryz.zeroValue238
 t139 := Tryz.underlying239
 a139 := Tryz.isAgg239
 z139 := Tryz.sizeOf239
 v139 := Tryz.zeroValue239
 g3 := by kernel_rfl
 g4 := by kernel_rfl }
open Go.RowKit in
theorem Tryz.strings_TrimLeft_one (s : ByteArray) (c : UInt8) (hc : c.toNat < 128) (w : World) :
  Calls Tryz.prog 179 #[.string s, .string ⟨#[c]⟩] w fun e w' => e = .returned (.string ⟨(Lib.trimLeftB s.data.toList c).toArray⟩) /\ w' = w := Any.strings_TrimLeft_one Tryz.lays161 s c hc w
def Tryz.lays162_ren : Go.Shelf.Ren := ⟨fun | 162 => 159 | 232 => 185 | 227 => 186 | 234 => 187 | 236 => 188 | 228 => 198 | 271 => 210 | 151 => 211 | 120 => 228 | 197 => 225 | 152 => 196 | 260 => 235 | 137 => 87 | 119 => 224 | 224 => 214 | 225 => 213 | 217 => 121 | 266 => 151 | n => n, fun | 9 => 9 | 4 => 4 | 3 => 3 | 5 => 5 | 117 => 211 | 116 => 210 | 0 => 0 | 124 => 214 | 21 => 21 | 105 => 228 | 46 => 167 | 119 => 236 | 139 => 239 | 138 => 238 | n => n, fun | 3 => 4 | 4 => 5 | n => n⟩
theorem Tryz.lays162 : Go.Proofs.Lays.n162 Tryz.prog Tryz.lays162_ren := {
 mixed := by kernel_rfl
 f119 := Tryz.func224.trans (congrArg some (by kernel_rfl))
 f120 := Tryz.func228.trans (congrArg some (by kernel_rfl))
 f137 := Tryz.func87.trans (congrArg some (by kernel_rfl))
 f151 := Tryz.func211.trans (congrArg some (by kernel_rfl))
 f152 := Tryz.func196.trans (congrArg some (by kernel_rfl))
 f162 := Tryz.func159.trans (congrArg some (by kernel_rfl))
 f197 := Tryz.func225.trans (congrArg some (by kernel_rfl))
 f217 := Tryz.func121.trans (congrArg some (by kernel_rfl))
 f224 := Tryz.func214.trans (congrArg some (by kernel_rfl))
 f225 := Tryz.func213.trans (congrArg some (by kernel_rfl))
 f227 := Tryz.func186.trans (congrArg some (by kernel_rfl))
 f228 := Tryz.func198.trans (congrArg some (by kernel_rfl))
 f232 := Tryz.func185.trans (congrArg some (by kernel_rfl))
 f234 := Tryz.func187.trans (congrArg some (by kernel_rfl))
 f236 := Tryz.func188.trans (congrArg some (by kernel_rfl))
 f260 := Tryz.func235.trans (congrArg some (by kernel_rfl))
 f266 := Tryz.func151.trans (congrArg some (by kernel_rfl))
 f271 := Tryz.func210.trans (congrArg some (by kernel_rfl))
 t0 := Tryz.underlying0
 a0 := Tryz.isAgg0
 z0 := Tryz.sizeOf0
 v0 := Tryz.zeroValue0
 t3 := Tryz.underlying3
 a3 := Tryz.isAgg3
 z3 := Tryz.sizeOf3
 v3 := Tryz.zeroValue3
 t4 := Tryz.underlying4
 a4 := Tryz.isAgg4
 z4 := Tryz.sizeOf4
 v4 := Tryz.zeroValue4
 t5 := Tryz.underlying5
 a5 := Tryz.isAgg5
 z5 := Tryz.sizeOf5
 v5 := Tryz.zeroValue5
 t9 := Tryz.underlying9
 a9 := Tryz.isAgg9
 z9 := Tryz.sizeOf9
 v9 := Tryz.zeroValue9
 t21 := Tryz.underlying21
 a21 := Tryz.isAgg21
 z21 := Tryz.sizeOf21
 v21 := Tryz.zeroValue21
 t46 := Tryz.underlying167
 a46 := Tryz.isAgg167
 z46 := Tryz.sizeOf167
 v46 := Tryz.zeroValue167
 t105 := Tryz.underlying228
 a105 := Tryz.isAgg228
 z105 := Tryz.sizeOf228
 v105 := Tryz.zeroValue228
 t116 := Tryz.underlying210
 a116 := Tryz.isAgg210
 z116 := Tryz.sizeOf210
 t117 := Tryz.underlying211
 a117 := Tryz.isAgg211
 z117 := Tryz.sizeOf211
 v117 := Tryz.zeroValue211
 t119 := Tryz.underlying236
 a119 := Tryz.isAgg236
 z119 := Tryz.sizeOf236
 t124 := Tryz.underlying214
 a124 := Tryz.isAgg214
 z124 := Tryz.sizeOf214
 v124 := Tryz.zeroValue214
 t138 := Tryz.underlying238
 a138 := Tryz.isAgg238
 z138 := Tryz.sizeOf238
 v138 := Tryz.zeroValue238
 t139 := Tryz.underlying239
 a139 := Tryz.isAgg239
 z139 := Tryz.sizeOf239
 v139 := Tryz.zeroValue239
 g3 := by kernel_rfl
 g4 := by kernel_rfl }
open Go.RowKit in
theorem Tryz.strings_TrimRight_one (s : ByteArray) (c : UInt8) (hc : c.toNat < 128) (w : World) (hs : s.size <= 9223372036854775807) :
  Calls Tryz.prog 159 #[.string s, .string ⟨#[c]⟩] w fun e w' => e = .returned (.string ⟨(Lib.trimRightB s.data.toList c).toArray⟩) /\ w' = w := Any.strings_TrimRight_one Tryz.lays162 s c hc w hs
def Tryz.lays137_ren : Go.Shelf.Ren := ⟨fun | 137 => 87 | 217 => 121 | 266 => 151 | n => n, fun | 9 => 9 | 5 => 5 | 3 => 3 | n => n, fun | n => n⟩
theorem Tryz.lays137 : Go.Proofs.Lays.n137 Tryz.prog Tryz.lays137_ren := {
 mixed := by kernel_rfl
 f137 := Tryz.func87.trans (congrArg some (by kernel_rfl))
 f217 := Tryz.func121.trans (congrArg some (by kernel_rfl))
 f266 := Tryz.func151.trans (congrArg some (by kernel_rfl))
 t3 := Tryz.underlying3
 a3 := Tryz.isAgg3
 z3 := Tryz.sizeOf3
 v3 := Tryz.zeroValue3
 t5 := Tryz.underlying5
 a5 := Tryz.isAgg5
 z5 := Tryz.sizeOf5
 v5 := Tryz.zeroValue5
 t9 := Tryz.underlying9
 a9 := Tryz.isAgg9
 z9 := Tryz.sizeOf9
 v9 := Tryz.zeroValue9 }
open Go.RowKit in
theorem Tryz.strings_IndexByte (s : ByteArray) (c : Int) (w : World) :
  Calls Tryz.prog 87 #[.string s, .int .u8 c] w fun e w' => e = .returned (.int .i64 (Lib.indexByte s.data.toList c.toNat.toUInt8)) /\ w' = w := Any.strings_IndexByte Tryz.lays137 s c w
def Tryz.lays103_ren : Go.Shelf.Ren := ⟨fun | 103 => 177 | 210 => 203 | 206 => 158 | n => n, fun | 9 => 9 | 4 => 4 | 24 => 205 | 3 => 3 | n => n, fun | n => n⟩
theorem Tryz.lays103 : Go.Proofs.Lays.n103 Tryz.prog Tryz.lays103_ren := {
 mixed := by kernel_rfl
 f103 := Tryz.func177.trans (congrArg some (by kernel_rfl))
 f206 := Tryz.func158.trans (congrArg some (by kernel_rfl))
 f210 := Tryz.func203.trans (congrArg some (by kernel_rfl))
 t3 := Tryz.underlying3
 a3 := Tryz.isAgg3
 z3 := Tryz.sizeOf3
 v3 := Tryz.zeroValue3
 t4 := Tryz.underlying4
 a4 := Tryz.isAgg4
 z4 := Tryz.sizeOf4
 v4 := Tryz.zeroValue4
 t9 := Tryz.underlying9
 a9 := Tryz.isAgg9
 z9 := Tryz.sizeOf9
 v9 := Tryz.zeroValue9
 t24 := Tryz.underlying205
 a24 := Tryz.isAgg205
 z24 := Tryz.sizeOf205
 v24 := Tryz.zeroValue205 }
open Go.RowKit in
theorem Tryz.strings_CutPrefix (s p : ByteArray) (w : World) :
  Calls Tryz.prog 177 #[.string s, .string p] w fun e w' => e = .returned (.tuple #[.string ⟨(Lib.trimPrefix s.data.toList p.data.toList).toArray⟩, .bool (Lib.hasPrefix s.data.toList p.data.toList)]) /\ w' = w := Any.strings_CutPrefix Tryz.lays103 s p w
def Tryz.laysM316_ren : Go.Shelf.Ren := ⟨fun | 316 => 207 | n => n, fun | 9 => 9 | 3 => 3 | 4 => 4 | 37 => 67 | 0 => 0 | 127 => 111 | 5 => 5 | n => n, fun | n => n⟩
theorem Tryz.laysM316 : Go.Proofs.LaysM.n316 Tryz.prog Tryz.laysM316_ren := {
 mixed := by kernel_rfl
 f316 := Tryz.func207.trans (congrArg some (by kernel_rfl))
 t0 := Tryz.underlying0
 a0 := Tryz.isAgg0
 z0 := Tryz.sizeOf0
 v0 := Tryz.zeroValue0
 t3 := Tryz.underlying3
 a3 := Tryz.isAgg3
 z3 := Tryz.sizeOf3
 v3 := Tryz.zeroValue3
 t4 := Tryz.underlying4
 a4 := Tryz.isAgg4
 z4 := Tryz.sizeOf4
 v4 := Tryz.zeroValue4
 t9 := Tryz.underlying9
 a9 := Tryz.isAgg9
 z9 := Tryz.sizeOf9
 v9 := Tryz.zeroValue9
 t37 := Tryz.underlying67
 a37 := Tryz.isAgg67
 z37 := Tryz.sizeOf67
 v37 := Tryz.zeroValue67
 t127 := Tryz.underlying111
 a127 := Tryz.isAgg111
 z127 := Tryz.sizeOf111
 v127 := Tryz.zeroValue111
 t5 := Tryz.underlying5
 a5 := Tryz.isAgg5
 z5 := Tryz.sizeOf5
 v5 := Tryz.zeroValue5
 i0 := by kernel_rfl
 i3 := by kernel_rfl
 i4 := by kernel_rfl
 i5 := by kernel_rfl
 i9 := by kernel_rfl
 i37 := by kernel_rfl
 i127 := by kernel_rfl }
open Go.RowKit in
theorem Tryz.stringslite_Clone (s : ByteArray) (w : World) (hlim : s.size <= 281474976710656) :
  Calls Tryz.prog 207 #[.string s] w fun e w' => e = .returned (.string s) /\ Below w.heap.size w w' := Any.stringslite_Clone Tryz.laysM316 s w hlim
def Tryz.lays143_ren : Go.Shelf.Ren := ⟨fun | 143 => 161 | 219 => 191 | 217 => 121 | 225 => 213 | 224 => 214 | 267 => 215 | 266 => 151 | 314 => 229 | n => n, fun | 9 => 9 | 3 => 3 | 4 => 4 | 5 => 5 | 46 => 167 | 146 => 195 | 51 => 194 | n => n, fun | 1 => 2 | n => n⟩
theorem Tryz.lays143 : Go.Proofs.Lays.n143 Tryz.prog Tryz.lays143_ren := {
 mixed := by kernel_rfl
 f143 := Tryz.func161.trans (congrArg some (by kernel_rfl))
 f217 := Tryz.func121.trans (congrArg some (by kernel_rfl))
 f219 := Tryz.func191.trans (congrArg some (by kernel_rfl))
 f224 := Tryz.func214.trans (congrArg some (by kernel_rfl))
 f225 := Tryz.func213.trans (congrArg some (by kernel_rfl))
 f266 := Tryz.func151.trans (congrArg some (by kernel_rfl))
 f267 := Tryz.func215.trans (congrArg some (by kernel_rfl))
 f314 := Tryz.func229.trans (congrArg some (by kernel_rfl))
 t3 := Tryz.underlying3
 a3 := Tryz.isAgg3
 z3 := Tryz.sizeOf3
 v3 := Tryz.zeroValue3
 t4 := Tryz.underlying4
 a4 := Tryz.isAgg4
 z4 := Tryz.sizeOf4
 v4 := Tryz.zeroValue4
 t5 := Tryz.underlying5
 a5 := Tryz.isAgg5
 z5 := Tryz.sizeOf5
 v5 := Tryz.zeroValue5
 t9 := Tryz.underlying9
 a9 := Tryz.isAgg9
 z9 := Tryz.sizeOf9
 v9 := Tryz.zeroValue9
 t46 := Tryz.underlying167
 a46 := Tryz.isAgg167
 z46 := Tryz.sizeOf167
 v46 := Tryz.zeroValue167
 t51 := Tryz.underlying194
 a51 := Tryz.isAgg194
 z51 := Tryz.sizeOf194
 v51 := Tryz.zeroValue194
 t146 := Tryz.underlying195
 a146 := Tryz.isAgg195
 z146 := Tryz.sizeOf195
 v146 := Tryz.zeroValue195
 g1 := by kernel_rfl }
open Go.RowKit Go.Lib in
theorem Tryz.strings_Index (s sub : ByteArray) (m : Int) (w : World) (hs : s.size < 4294967281) (hm : w.cell? ⟨2, 0, none⟩ = some (.int .i64 m)) :
  Calls Tryz.prog 161 #[.string s, .string sub] w fun e w' => e = .returned (.int .i64 (Lib.index s.data.toList sub.data.toList)) /\ w' = w := Any.strings_Index Tryz.lays143 s sub m w hs hm
def Tryz.lays138_ren : Go.Shelf.Ren := ⟨fun | 138 => 167 | 195 => 199 | 218 => 200 | 143 => 161 | 219 => 191 | 217 => 121 | 225 => 213 | 224 => 214 | 267 => 215 | 266 => 151 | 314 => 229 | n => n, fun | 9 => 9 | 3 => 3 | 4 => 4 | 5 => 5 | 0 => 0 | 46 => 167 | 146 => 195 | 51 => 194 | n => n, fun | 1 => 2 | n => n⟩
theorem Tryz.lays138 : Go.Proofs.Lays.n138 Tryz.prog Tryz.lays138_ren := {
 mixed := by kernel_rfl
 f138 := Tryz.func167.trans (congrArg some (by kernel_rfl))
 f143 := Tryz.func161.trans (congrArg some (by kernel_rfl))
 f195 := Tryz.func199.trans (congrArg some (by kernel_rfl))
 f217 := Tryz.func121.trans (congrArg some (by kernel_rfl))
 f218 := Tryz.func200.trans (congrArg some (by kernel_rfl))
 f219 := Tryz.func191.trans (congrArg some (by kernel_rfl))
 f224 := Tryz.func214.trans (congrArg some (by kernel_rfl))
 f225 := Tryz.func213.trans (congrArg some (by kernel_rfl))
 f266 := Tryz.func151.trans (congrArg some (by kernel_rfl))
 f267 := Tryz.func215.trans (congrArg some (by kernel_rfl))
 f314 := Tryz.func229.trans (congrArg some (by kernel_rfl))
 t0 := Tryz.underlying0
 a0 := Tryz.isAgg0
 z0 := Tryz.sizeOf0
 v0 := Tryz.zeroValue0
 t3 := Tryz.underlying3
 a3 := Tryz.isAgg3
 z3 := Tryz.sizeOf3
 v3 := Tryz.zeroValue3
 t4 := Tryz.underlying4
 a4 := Tryz.isAgg4
 z4 := Tryz.sizeOf4
 v4 := Tryz.zeroValue4
 t5 := Tryz.underlying5
 a5 := Tryz.isAgg5
 z5 := Tryz.sizeOf5
 v5 := Tryz.zeroValue5
 t9 := Tryz.underlying9
 a9 := Tryz.isAgg9
 z9 := Tryz.sizeOf9
 v9 := Tryz.zeroValue9
 t46 := Tryz.underlying167
 a46 := Tryz.isAgg167
 z46 := Tryz.sizeOf167
 v46 := Tryz.zeroValue167
 t51 := Tryz.underlying194
 a51 := Tryz.isAgg194
 z51 := Tryz.sizeOf194
 v51 := Tryz.zeroValue194
 t146 := Tryz.underlying195
 a146 := Tryz.isAgg195
 z146 := Tryz.sizeOf195
 v146 := Tryz.zeroValue195
 g1 := by kernel_rfl }
open Go.RowKit Go.Lib in
theorem Tryz.strings_Count_one (s : ByteArray) (c : UInt8) (w : World) :
  Calls Tryz.prog 167 #[.string s, .string ⟨#[c]⟩] w fun e w' => e = .returned (.int .i64 (Lib.countByte s.data.toList c)) /\ w' = w := Any.strings_Count_one Tryz.lays138 s c w
def Tryz.lays99_ren : Go.Shelf.Ren := ⟨fun | 99 => 127 | 206 => 158 | n => n, fun | 9 => 9 | 4 => 4 | 3 => 3 | n => n, fun | n => n⟩
theorem Tryz.lays99 : Go.Proofs.Lays.n99 Tryz.prog Tryz.lays99_ren := {
 mixed := by kernel_rfl
 f99 := Tryz.func127.trans (congrArg some (by kernel_rfl))
 f206 := Tryz.func158.trans (congrArg some (by kernel_rfl))
 t3 := Tryz.underlying3
 a3 := Tryz.isAgg3
 z3 := Tryz.sizeOf3
 v3 := Tryz.zeroValue3
 t4 := Tryz.underlying4
 a4 := Tryz.isAgg4
 z4 := Tryz.sizeOf4
 v4 := Tryz.zeroValue4
 t9 := Tryz.underlying9
 a9 := Tryz.isAgg9
 z9 := Tryz.sizeOf9
 v9 := Tryz.zeroValue9 }
open Go.RowKit Go.Lib in
theorem Tryz.strings_HasPrefix (s p : ByteArray) (w : World) :
  Calls Tryz.prog 127 #[.string s, .string p] w fun e w' => e = .returned (.bool (Lib.hasPrefix s.data.toList p.data.toList)) /\ w' = w := Any.strings_HasPrefix Tryz.lays99 s p w
def Tryz.lays100_ren : Go.Shelf.Ren := ⟨fun | 100 => 137 | 207 => 165 | n => n, fun | 9 => 9 | 4 => 4 | 3 => 3 | n => n, fun | n => n⟩
theorem Tryz.lays100 : Go.Proofs.Lays.n100 Tryz.prog Tryz.lays100_ren := {
 mixed := by kernel_rfl
 f100 := Tryz.func137.trans (congrArg some (by kernel_rfl))
 f207 := Tryz.func165.trans (congrArg some (by kernel_rfl))
 t3 := Tryz.underlying3
 a3 := Tryz.isAgg3
 z3 := Tryz.sizeOf3
 v3 := Tryz.zeroValue3
 t4 := Tryz.underlying4
 a4 := Tryz.isAgg4
 z4 := Tryz.sizeOf4
 v4 := Tryz.zeroValue4
 t9 := Tryz.underlying9
 a9 := Tryz.isAgg9
 z9 := Tryz.sizeOf9
 v9 := Tryz.zeroValue9 }
open Go.RowKit Go.Lib in
theorem Tryz.strings_HasSuffix (s p : ByteArray) (w : World) (hs : s.size <= 9223372036854775807) :
  Calls Tryz.prog 137 #[.string s, .string p] w fun e w' => e = .returned (.bool (Lib.hasSuffix s.data.toList p.data.toList)) /\ w' = w := Any.strings_HasSuffix Tryz.lays100 s p w hs
def Tryz.lays153_ren : Go.Shelf.Ren := ⟨fun | 153 => 166 | 152 => 196 | 226 => 197 | 227 => 186 | 228 => 198 | 137 => 87 | 119 => 224 | 224 => 214 | 225 => 213 | 217 => 121 | 266 => 151 | n => n, fun | 9 => 9 | 3 => 3 | 4 => 4 | 5 => 5 | 21 => 21 | 117 => 211 | 116 => 210 | 0 => 0 | 46 => 167 | 124 => 214 | n => n, fun | n => n⟩
theorem Tryz.lays153 : Go.Proofs.Lays.n153 Tryz.prog Tryz.lays153_ren := {
 mixed := by kernel_rfl
 f119 := Tryz.func224.trans (congrArg some (by kernel_rfl))
 f137 := Tryz.func87.trans (congrArg some (by kernel_rfl))
 f152 := Tryz.func196.trans (congrArg some (by kernel_rfl))
 f153 := Tryz.func166.trans (congrArg some (by kernel_rfl))
 f217 := Tryz.func121.trans (congrArg some (by kernel_rfl))
 f224 := Tryz.func214.trans (congrArg some (by kernel_rfl))
 f225 := Tryz.func213.trans (congrArg some (by kernel_rfl))
 f226 := Tryz.func197.trans (congrArg some (by kernel_rfl))
 f227 := Tryz.func186.trans (congrArg some (by kernel_rfl))
 f228 := Tryz.func198.trans (congrArg some (by kernel_rfl))
 f266 := Tryz.func151.trans (congrArg some (by kernel_rfl))
 t0 := Tryz.underlying0
 a0 := Tryz.isAgg0
 z0 := Tryz.sizeOf0
 v0 := Tryz.zeroValue0
 t3 := Tryz.underlying3
 a3 := Tryz.isAgg3
 z3 := Tryz.sizeOf3
 v3 := Tryz.zeroValue3
 t4 := Tryz.underlying4
 a4 := Tryz.isAgg4
 z4 := Tryz.sizeOf4
 v4 := Tryz.zeroValue4
 t5 := Tryz.underlying5
 a5 := Tryz.isAgg5
 z5 := Tryz.sizeOf5
 v5 := Tryz.zeroValue5
 t9 := Tryz.underlying9
 a9 := Tryz.isAgg9
 z9 := Tryz.sizeOf9
 v9 := Tryz.zeroValue9
 t21 := Tryz.underlying21
 a21 := Tryz.isAgg21
 z21 := Tryz.sizeOf21
 v21 := Tryz.zeroValue21
 t46 := Tryz.underlying167
 a46 := Tryz.isAgg167
 z46 := Tryz.sizeOf167
 v46 := Tryz.zeroValue167
 t116 := Tryz.underlying210
 a116 := Tryz.isAgg210
 z116 := Tryz.sizeOf210
 t117 := Tryz.underlying211
 a117 := Tryz.isAgg211
 z117 := Tryz.sizeOf211
 v117 := Tryz.zeroValue211
 t124 := Tryz.underlying214
 a124 := Tryz.isAgg214
 z124 := Tryz.sizeOf214
 v124 := Tryz.zeroValue214 }
def Tryz.lays150_ren : Go.Shelf.Ren := ⟨fun | 150 => 138 | 153 => 166 | 152 => 196 | 226 => 197 | 227 => 186 | 228 => 198 | 137 => 87 | 119 => 224 | 224 => 214 | 225 => 213 | 217 => 121 | 266 => 151 | n => n, fun | 9 => 9 | 4 => 4 | 3 => 3 | 5 => 5 | 21 => 21 | 117 => 211 | 116 => 210 | 0 => 0 | 46 => 167 | 124 => 214 | n => n, fun | n => n⟩
theorem Tryz.lays150 : Go.Proofs.Lays.n150 Tryz.prog Tryz.lays150_ren := {
 mixed := by kernel_rfl
 f119 := Tryz.func224.trans (congrArg some (by kernel_rfl))
 f137 := Tryz.func87.trans (congrArg some (by kernel_rfl))
 f150 := Tryz.func138.trans (congrArg some (by kernel_rfl))
 f152 := Tryz.func196.trans (congrArg some (by kernel_rfl))
 f153 := Tryz.func166.trans (congrArg some (by kernel_rfl))
 f217 := Tryz.func121.trans (congrArg some (by kernel_rfl))
 f224 := Tryz.func214.trans (congrArg some (by kernel_rfl))
 f225 := Tryz.func213.trans (congrArg some (by kernel_rfl))
 f226 := Tryz.func197.trans (congrArg some (by kernel_rfl))
 f227 := Tryz.func186.trans (congrArg some (by kernel_rfl))
 f228 := Tryz.func198.trans (congrArg some (by kernel_rfl))
 f266 := Tryz.func151.trans (congrArg some (by kernel_rfl))
 t0 := Tryz.underlying0
 a0 := Tryz.isAgg0
 z0 := Tryz.sizeOf0
 v0 := Tryz.zeroValue0
 t3 := Tryz.underlying3
 a3 := Tryz.isAgg3
 z3 := Tryz.sizeOf3
 v3 := Tryz.zeroValue3
 t4 := Tryz.underlying4
 a4 := Tryz.isAgg4
 z4 := Tryz.sizeOf4
 v4 := Tryz.zeroValue4
 t5 := Tryz.underlying5
 a5 := Tryz.isAgg5
 z5 := Tryz.sizeOf5
 v5 := Tryz.zeroValue5
 t9 := Tryz.underlying9
 a9 := Tryz.isAgg9
 z9 := Tryz.sizeOf9
 v9 := Tryz.zeroValue9
 t21 := Tryz.underlying21
 a21 := Tryz.isAgg21
 z21 := Tryz.sizeOf21
 v21 := Tryz.zeroValue21
 t46 := Tryz.underlying167
 a46 := Tryz.isAgg167
 z46 := Tryz.sizeOf167
 v46 := Tryz.zeroValue167
 t116 := Tryz.underlying210
 a116 := Tryz.isAgg210
 z116 := Tryz.sizeOf210
 t117 := Tryz.underlying211
 a117 := Tryz.isAgg211
 z117 := Tryz.sizeOf211
 v117 := Tryz.zeroValue211
 t124 := Tryz.underlying214
 a124 := Tryz.isAgg214
 z124 := Tryz.sizeOf214
 v124 := Tryz.zeroValue214 }
open Go.RowKit Go.Lib in
theorem Tryz.strings_IndexAny_laid (s chars : ByteArray) (w : World) (hs : s.size < 4294967281) (hcs : chars.size < 4294967281) (has : ∀ (j : Nat) b, s.data.toList[j]? = some b -> b.toNat < 128) (hac : ∀ (j : Nat) b, chars.data.toList[j]? = some b -> b.toNat < 128) :
  Calls Tryz.prog 166 #[.string s, .string chars] w fun e w' => e = .returned (.int .i64 (Lib.indexAny s.data.toList chars.data.toList)) /\ Below w.heap.size w w' := Any.strings_IndexAny_laid Tryz.lays153 (by kernel_rfl) s chars w hs hcs has hac
open Go.RowKit Go.Lib in
theorem Tryz.strings_ContainsAny_laid (s chars : ByteArray) (w : World) (hs : s.size < 4294967281) (hcs : chars.size < 4294967281) (has : ∀ (j : Nat) b, s.data.toList[j]? = some b -> b.toNat < 128) (hac : ∀ (j : Nat) b, chars.data.toList[j]? = some b -> b.toNat < 128) :
  Calls Tryz.prog 138 #[.string s, .string chars] w fun e w' => e = .returned (.bool (Lib.containsAny s.data.toList chars.data.toList)) /\ Below w.heap.size w w' := Any.strings_ContainsAny_laid Tryz.lays150 (by kernel_rfl) s chars w hs hcs has hac
end Go.Proofs
namespace Go.Proofs.YtbcdaaobbebooaaGreatDoor
set_option maxRecDepth 100000
set_option maxHeartbeats 20000000
open Go.RowKit Go.Tab
theorem letter_any (c : UInt8) (w : World) : Calls Tryz.prog 122 #[.int .u8 c.toNat] w fun e w' => e = .returned (.bool (letB c)) /\ w = w' := by
 have hL : letB c = (decide (65 <= c.toNat /\ c.toNat <= 90) || (decide (97 <= c.toNat /\ c.toNat <= 122) || decide (c.toNat = 95))) := rfl; generalize letB c = b at hL; generalize c.toNat = n at hL
 have hr : ((n < 65 \/ (65 <= n /\ 90 < n /\ n < 95) \/ (65 <= n /\ 90 < n /\ n = 96) \/ (65 <= n /\ 90 < n /\ 97 <= n /\ 122 < n)) /\ b = false) \/ (((65 <= n /\ n <= 90) \/ (65 <= n /\ 90 < n /\ 97 <= n /\ n <= 122) \/ (65 <= n /\ 90 < n /\ n < 97 /\ n = 95)) /\ b = true) := by
  cases b with
  | false =>
   have h := hL.symm; simp only [Bool.or_eq_false_iff, decide_eq_false_iff_not] at h
   left
   exact ⟨by omega, rfl⟩
  | true =>
   have h := hL.symm; simp only [Bool.or_eq_true, decide_eq_true_eq] at h
   right
   exact ⟨by omega, rfl⟩
 clear hL; rcases hr with ⟨(h | ⟨h1, h2, h3⟩ | ⟨h1, h2, rfl⟩ | ⟨h1, h2, h3, h4⟩), rfl⟩ | ⟨(⟨h1, h2⟩ | ⟨h1, h2, h3, h4⟩ | ⟨h1, h2, h3, rfl⟩), rfl⟩
 all_goals
  go_enter Tryz.func122, Tryz.ntmps122; go_wp2; go_ret; first
  | exact ⟨rfl, rfl⟩
  | exact ⟨ret_bool (by simp only [ne_eq, Bool.or_eq_false_iff, Bool.or_eq_true, decide_eq_false_iff_not, decide_eq_true_eq, beq_eq_false_iff_ne, beq_iff_eq]; omega), rfl⟩
theorem digit_any (c : UInt8) (w : World) : Calls Tryz.prog 124 #[.int .u8 c.toNat] w fun e w' => e = .returned (.bool (dg c)) /\ w = w' := by
 have hL : dg c = decide (48 <= c.toNat /\ c.toNat <= 57) := rfl; generalize dg c = b at hL; generalize c.toNat = n at hL
 have hr : ((n < 48 \/ (48 <= n /\ 57 < n)) /\ b = false) \/ ((48 <= n /\ n <= 57) /\ b = true) := by
  cases b with
  | false =>
   have h := hL.symm; simp only [decide_eq_false_iff_not] at h
   left
   exact ⟨by omega, rfl⟩
  | true =>
   have h := hL.symm; simp only [decide_eq_true_eq] at h
   right
   exact ⟨by omega, rfl⟩
 clear hL; rcases hr with ⟨(h | ⟨h1, h2⟩), rfl⟩ | ⟨⟨h1, h2⟩, rfl⟩
 all_goals
  go_enter Tryz.func124, Tryz.ntmps124; go_wp2; go_ret; first
  | exact ⟨rfl, rfl⟩
  | exact ⟨ret_bool (by simp only [ne_eq, Bool.or_eq_false_iff, Bool.or_eq_true, decide_eq_false_iff_not, decide_eq_true_eq, beq_eq_false_iff_ne, beq_iff_eq]; omega), rfl⟩
theorem idN_step (l : Bs) (k : Nat) (h : k < l.length) : idN (l.drop k) = if idB l[k] then idN (l.drop (k + 1)) + 1 else 0 := by
 rw [List.drop_eq_getElem_cons h, idN]
theorem ident_any (s : ByteArray) (w : World) (hs : s.size <= maxLen) (h0 : 0 < s.size) :
  Calls Tryz.prog 123 #[.string s] w fun e w' => e = .returned (.int .i64 ((1 + idN (s.data.toList.drop 1) : Nat) : Int)) /\ w = w' := by
 unfold maxLen at hs; generalize hq : idN (s.data.toList.drop 1) = q; have HQ := Lib.hid hq; clear hq; go_enter Tryz.func123, Tryz.ntmps123; go_wp2_with fail; go_loop [3] (fun n => ∃ k : Nat, n = .int .i64 (k : Int) /\ 1 <= k /\ k <= s.size /\ k + idN (s.data.toList.drop k) = 1 + q) (fun n => s.size - (intOf n).toNat)
 case atStart => exact ⟨1, rfl, Nat.le_refl _, h0, by rw [HQ.out]⟩
 case round =>
  obtain ⟨k, rfl, hk1, hk, hI⟩ := hrel
  by_cases hlt : k < s.size
  ·have hst := idN_step s.data.toList k (by rw [<- size_list]; exact hlt)
   rw [hst] at hI; have hLe := letter_any (s[k]'hlt); have hDi := digit_any (s[k]'hlt); have hid : idB (s[k]'hlt) = (letB (s[k]'hlt) || dg (s[k]'hlt)) := rfl; rw [<- get_list hlt, hid] at hI; clear hst hid
   cases hb : letB (s[k]'hlt) with
   | true =>
    rw [hb] at hI hLe; simp only [Bool.true_or, if_true] at hI; have HI := Lib.hid hI; clear hI hb hDi; go_wp2_with fail; refine (hLe _).mono ?_; rintro _ _ ⟨rfl, rfl⟩; go_wp2; go_round
    case rel => exact ⟨k + 1, by go_num, by omega, by omega, by have := HI.out; omega⟩
    case measure => simp [intOf]; omega
   | false =>
    rw [hb] at hI hLe
    cases hd : dg (s[k]'hlt) with
    | true =>
     rw [hd] at hI hDi; simp only [Bool.or_true, if_true] at hI; have HI := Lib.hid hI; clear hI hb hd; go_wp2_with fail; refine (hLe _).mono ?_; rintro _ _ ⟨rfl, rfl⟩; go_wp2_with fail; refine (hDi _).mono ?_; rintro _ _ ⟨rfl, rfl⟩; go_wp2; go_round
     case rel => exact ⟨k + 1, by go_num, by omega, by omega, by have := HI.out; omega⟩
     case measure => simp [intOf]; omega
    | false =>
     rw [hd] at hI hDi; simp only [Bool.or_false, Bool.false_eq_true, if_false] at hI; have HI := Lib.hid hI; clear hI hb hd; go_wp2_with fail; refine (hLe _).mono ?_; rintro _ _ ⟨rfl, rfl⟩; go_wp2_with fail; refine (hDi _).mono ?_; rintro _ _ ⟨rfl, rfl⟩; go_wp2; go_ret; exact ⟨ret_num (by have := HI.out; omega), rfl⟩
  ·obtain rfl : k = s.size := by omega
   have he : idN (s.data.toList.drop s.size) = 0 := by rw [size_list, List.drop_length]; rfl
   rw [he] at hI; have HI := Lib.hid hI; clear hI he; go_wp2; go_ret; exact ⟨ret_num (by have := HI.out; omega), rfl⟩
end Go.Proofs.YtbcdaaobbebooaaGreatDoor
namespace Go.Proofs.YtbcdaaobbebooaaGreatDoor
set_option maxRecDepth 100000
set_option maxHeartbeats 20000000
open Go.RowKit Go.Tab Go.Shelf
attribute [local go_sem] Oper.semAt_some
def badC (x : Nat × Nat) : Bool := decide (x.2 < 32) && x.2 != 9
def wthV : Option (Nat × Int) -> Value
 | none => .tuple #[.int .i64 0, .int .i64 0]
 | some x => .tuple #[.int .i64 (x.1 : Nat), .int .i64 x.2]
def WiI (w : World) (pre : List (Nat × Nat)) (W : World) : Prop :=
 ((∀ x ∈ pre, badC x = false) /\ Cells W w.heap.size #[.int .i64 0] 3 /\ Cells W (w.heap.size + 1) #[.int .i64 0] 26) /\ Below w.heap.size w W
def WiX (w : World) (c : Code) (pre : List (Nat × Nat)) (W : World) : Prop :=
 (c = .ret /\ ∃ d x, pre = d ++ [x] /\ (∀ x ∈ d, badC x = false) /\ badC x = true /\ Cells W w.heap.size #[.int .i64 (x.1 : Nat)] 3 /\ Cells W (w.heap.size + 1) #[.int .i64 3] 26) /\ Below w.heap.size w W
theorem cells_own {A B : World} {row : Option Nat} {g : Nat} {cs : Array Value} {t : TypeId} (h : Cells A g cs t) (hg : A.grownBy B row) (hr : ∀ r, row = some r -> ∃ o : Obj, A.heap[r]? = some o /\ o.isCells = false) : Cells B g cs t :=
 h.kept hg (fun e' => by
  obtain ⟨o, ho, hc⟩ := hr _ e'.symm
  rw [show A.heap[g]? = _ from h] at ho; cases ho; cases hc)
theorem WiI_own (w : World) (L : Nat) (hL : w.heap.size <= L) : OwnFrom L (WiI w) :=
 OwnFrom.and (Own.from (fun pre A B row hs hg' hr => ⟨hs.1, cells_own hs.2.1 hg' hr, cells_own hs.2.2 hg' hr⟩) _) (ownFrom_below (Nat.le_refl _) hL)
theorem WiX_own (w : World) (L : Nat) (hL : w.heap.size <= L) (c : Code) : OwnFrom L (WiX w c) :=
 OwnFrom.and (Own.from (fun pre A B row hs hg' hr => by
  obtain ⟨h1, d, x, h2, h3, h4, h5, h6⟩ := hs
  exact ⟨h1, d, x, h2, h3, h4, cells_own h5 hg' hr, cells_own h6 hg' hr⟩) _) (ownFrom_below (Nat.le_refl _) hL)
theorem wth_none {l : Bs} (h : ∀ x ∈ (scan (nb l) 0).1, badC x = false) : wth l = match (scan (nb l) 0).2 with
  | some a => some (a, 7)
  | none => none := by
 unfold wth
 have : (scan (nb l) 0).1.find? (fun x => decide (x.2 < 32) && x.2 != 9) = none := by
  rw [List.find?_eq_none]; intro x hx; have := h x hx; unfold badC at this; rw [this]; simp
 rw [this]; rfl
theorem wth_some {l : Bs} {d : List (Nat × Nat)} {x : Nat × Nat} (h : d ++ [x] <+: (scan (nb l) 0).1) (h1 : ∀ x ∈ d, badC x = false) (h2 : badC x = true) : wth l = some (x.1, 3) := by
 unfold wth
 have : (scan (nb l) 0).1.find? (fun x => decide (x.2 < 32) && x.2 != 9) = some x := by
  obtain ⟨t, ht⟩ := h; rw [<- ht, List.append_assoc, List.find?_append, List.find?_append]
  have hd : d.find? (fun x => decide (x.2 < 32) && x.2 != 9) = none := by
   rw [List.find?_eq_none]; intro y hy; have := h1 y hy; unfold badC at this; rw [this]; simp
  rw [hd]; unfold badC at h2; simp only [List.find?_cons, h2]; rfl
 rw [this]
theorem good_snoc {pre : List (Nat × Nat)} {x : Nat × Nat} (h : ∀ x ∈ pre, badC x = false) (hx : badC x = false) : ∀ y ∈ pre ++ [x], badC y = false := by
 intro y hy; rcases List.mem_append.1 hy with hy | hy
 ·exact h y hy
 ·simp at hy; subst hy; exact hx
theorem Cells.putObj {W : World} {g D : Nat} {cs : Array Value} {t : TypeId} {o o' : Obj} (h : Cells W g cs t) (hK : W.heap[D]? = some o) (ho : o.isCells = false) : Cells (W.putObj D o') g cs t := by
 have hne : g ≠ D := by
  rintro rfl; rw [show W.heap[g]? = _ from h] at hK; cases hK; cases ho
 exact (World.putObj_heap_other hne).trans h
theorem keeps_two {W : World} {B a b : Nat} {u v : Value} (ha : a < B) (hb : b < B) : KeepsFrom B W ((W.setCell ⟨a, 0, none⟩ u).setCell ⟨b, 0, none⟩ v) :=
 ⟨by simp [World.setCell], fun k o hk ho _ => (Below.heap_setCell _ _ _ _ (by show k ≠ b; omega)).trans ((Below.heap_setCell _ _ _ _ (by show k ≠ a; omega)).trans ho)⟩
theorem within_any (s : ByteArray) (w : World) (hs : s.size <= 1048576) (hT : Tab w) :
  Calls Tryz.prog 160 #[.string s] w fun e w' => e = .returned (wthV (wth s.data.toList)) /\ Below w.heap.size w w' := by
 refine (callsIn_wide (n := 9)).1 ?_; refine callsIn_of_wp_marks Tryz.func160 rfl trivial ?_ rfl; simp only [Tryz.ntmps160, List.size_toArray, List.length_cons, List.length_nil, Nat.reduceAdd, Nat.reduceSub, Array.replicate_succ, Array.replicate_zero, List.push_toArray, List.append_toArray, List.nil_append, List.cons_append]; have HA := Lib.hid (uAll_any s ((w.alloc (.cells #[.int .i64 0] 3)).alloc (.cells #[.int .i64 0] 26)))
 gi_wp2
 refine ⟨trivial, (callsIn_wide.2 HA.out).mono ?_⟩; rintro e w1 ⟨rfl, hw1⟩
 have hb1 : Below (w.heap.size + 2) ((w.alloc (.cells #[.int .i64 0] 3)).alloc (.cells #[.int .i64 0] 26)) w1 := by
  rw [hw1]; exact (Below.refl _ _).alloc (by simp) _
 have hz : w1.heap.size = w.heap.size + 3 := by rw [hw1]; simp
 have hcB : w1.cell? ⟨w.heap.size + 2, 0, none⟩ = some (.string s) := by
  have h := World.cell?_alloc_new (w := (w.alloc (.cells #[.int .i64 0] 3)).alloc (.cells #[.int .i64 0] 26)) #[.string s] 9 0; simp only [World.size_alloc] at h; rw [hw1]; exact h
 have c2 : Cells w1 w.heap.size #[.int .i64 0] 3 := ((Cells.new w _ _).alloc _).below hb1 (by omega)
 have c3 : Cells w1 (w.heap.size + 1) #[.int .i64 0] 26 := by
  have h := (Cells.new (w.alloc (.cells #[.int .i64 0] 3)) #[.int .i64 0] 26).below hb1 (by simp)
  simpa using h
 have hB0 : Below w.heap.size w w1 := (((Below.refl _ w).alloc (Nat.le_refl _) _).alloc (by simp) _).trans (hb1.mono (by omega)); have hT1 := hT.below hB0 hT.pos; have h0w := hT.pos; clear HA hw1; simp only [World.size_alloc]
 gi_wp2
 have hwL : w.heap.size <= w1.heap.size := by omega
 refine wpIn_rangeFunc_ownG rfl (by omega) (gf := 212) (lb := #[.pointer (some ⟨w.heap.size + 2, 0, none⟩)]) rfl trivial (enters_of Tryz.func212 (by kernel_rfl) rfl)
  (uAll_stops 8 (by omega) (w.heap.size + 2) s (by omega) w1 (by omega) hcB hT1) TwoKept.trans (TwoKept.put (w.heap.size + 2) w1 (by omega) (by omega)) (Below.refl _ _) (fun _ => rfl)
  (WiI w) (WiX w) (WiI_own _ _ hwL) (WiX_own _ _ hwL)
  ⟨⟨by simp, c2, c3⟩, hB0⟩
  (fun x => { tmps := #[.string s, undef, .pointer (some ⟨w.heap.size, 0, none⟩), .pointer (some ⟨w.heap.size + 1, 0, none⟩), .int .i64 (x.1 : Nat), .int .i64 (x.2 : Nat), undef, .string s, .func (.func 212) #[] #[.pointer (some ⟨w.heap.size + 2, 0, none⟩)], .int .i64 (x.1 : Nat), .int .i64 (x.2 : Nat), undef, undef, undef, undef, undef, undef, undef, undef, undef, undef, undef, undef], defers := [] }) ?assign ?body ?done ?stop
 case assign =>
  intro l x W K hK
  gi_wp2
  exact hK
 case body =>
  rintro l0 pre x W ⟨⟨hgood, hc2, hc3⟩, hB⟩ hlt; have hl2 := hc2.lt; have hl3 := hc3.lt
  by_cases hx : x.2 < 32 /\ x.2 ≠ 9
  ·have d1 : decide ((x.2 : Int) < 32) = true := by rw [decide_eq_true_eq]; omega
   have d2 : ((x.2 : Int) != 9) = true := by rw [bne_iff_ne]; omega
   have hbx : badC x = true := by simp [badC, hx.1, hx.2]
   have HX := Lib.hid hbx; have HG := Lib.hid hgood; clear hx hgood hbx; have hc2c0 := hc2.cell 0 _ rfl; have hc2f0 := hc2.frozen 0; have hc3c0 := hc3.cell 0 _ rfl; have hc3f0 := hc3.frozen 0
   gi_wp2
   exact ⟨keeps_two (by omega) (by omega), ⟨rfl, pre, x, rfl, HG.out, HX.out, (hc2.setI 0 _).setOther _ _ (by show w.heap.size + 1 ≠ w.heap.size; omega), (hc3.setOther _ _ (by show w.heap.size ≠ w.heap.size + 1; omega)).setI 0 _⟩, (hB.setCell (Nat.le_refl _) _).setCell (by show w.heap.size <= w.heap.size + 1; omega) _⟩
  ·have hbx : badC x = false := by
    simp only [badC, Bool.and_eq_false_iff, decide_eq_false_iff_not, bne_eq_false_iff_eq]; omega
   have HX := Lib.hid hbx; have HG := Lib.hid hgood; have hr : 32 <= x.2 \/ x.2 = 9 := by omega
   clear hx hgood hbx; rcases hr with hr | hr
   ·have d1 : decide ((x.2 : Int) < 32) = false := by rw [decide_eq_false_iff_not]; omega
    gi_wp2
    exact ⟨KeepsFrom.refl _ _, TwoKept.refl _ _, ⟨good_snoc HG.out HX.out, hc2, hc3⟩, hB⟩
   ·have d1 : decide ((x.2 : Int) < 32) = true := by rw [decide_eq_true_eq]; omega
    have d2 : ((x.2 : Int) != 9) = false := by rw [bne_eq_false_iff_eq]; omega
    gi_wp2
    exact ⟨KeepsFrom.refl _ _, TwoKept.refl _ _, ⟨good_snoc HG.out HX.out, hc2, hc3⟩, hB⟩
 case done =>
  rintro D ys W hD rfl ⟨⟨hgood, hc2, hc3⟩, hB⟩ hK; have hTW := hT.below hB hT.pos; have hBa := Bad_any s W hTW (by omega); have hW := wth_none (l := s.data.toList) hgood; have hl2 := hc2.lt; have hl3 := hc3.lt; rw [show nb s.data.toList = bs s from rfl] at hW
  cases ho : (scan (bs s) 0).2 with
  | none =>
   rw [ho] at hBa hW; have HW := Lib.hid hW; clear hW hgood ho; simp only [badV] at hBa; have hc2c0 := hc2.cell 0 _ rfl; have hc2f0 := hc2.frozen 0; have hc3c0 := hc3.cell 0 _ rfl; have hc3f0 := hc3.frozen 0
   gi_wp2
   refine ⟨trivial, (callsIn_wide.2 hBa).mono ?_⟩; rintro e w3 ⟨rfl, rfl⟩
   gi_wp2
   have hK2 : ((W.setCell ⟨w.heap.size, 0, none⟩ (.int .i64 0)).setCell ⟨w.heap.size + 1, 0, none⟩ (.int .i64 0)).heap[D]? = some (Obj.deferred (some [])) := (Below.heap_setCell _ _ _ _ (by show D ≠ w.heap.size + 1; omega)).trans ((Below.heap_setCell _ _ _ _ (by show D ≠ w.heap.size; omega)).trans hK); refine ⟨by simp, .inl ⟨_, _, rfl, run_takeDeferred hK2, ?_⟩⟩; have e2 := (((hc2.setI 0 (.int .i64 0)).setOther ⟨w.heap.size + 1, 0, none⟩ (.int .i64 0) (by show w.heap.size + 1 ≠ w.heap.size; omega)).putObj (o' := .deferred none) hK2 rfl).cell 0 _ rfl; have e3 := (((hc3.setOther ⟨w.heap.size, 0, none⟩ (.int .i64 0) (by show w.heap.size ≠ w.heap.size + 1; omega)).setI 0 (.int .i64 0)).putObj (o' := .deferred none) hK2 rfl).cell 0 _ rfl; refine ⟨wthV none, by simp [results, Tryz.results160, go_sem, wthV, e2, e3], by rw [HW.out], ?_⟩; exact ((hB.setCell (p := ⟨w.heap.size, 0, none⟩) (Nat.le_refl _) _).setCell (p := ⟨w.heap.size + 1, 0, none⟩) (by show w.heap.size <= w.heap.size + 1; omega) _).trans (belowK_b (w := w) (Nat.le_refl _) _ D _ _ (by omega) hK2 rfl rfl)
  | some a =>
   rw [ho] at hBa hW; have HW := Lib.hid hW; clear hW hgood ho; simp only [badV] at hBa; have hc2c0 := hc2.cell 0 _ rfl; have hc2f0 := hc2.frozen 0; have hc3c0 := hc3.cell 0 _ rfl; have hc3f0 := hc3.frozen 0
   gi_wp2
   refine ⟨trivial, (callsIn_wide.2 hBa).mono ?_⟩; rintro e w3 ⟨rfl, rfl⟩
   gi_wp2
   have hK2 : ((W.setCell ⟨w.heap.size, 0, none⟩ (.int .i64 (a : Int))).setCell ⟨w.heap.size + 1, 0, none⟩ (.int .i64 7)).heap[D]? = some (Obj.deferred (some [])) := (Below.heap_setCell _ _ _ _ (by show D ≠ w.heap.size + 1; omega)).trans ((Below.heap_setCell _ _ _ _ (by show D ≠ w.heap.size; omega)).trans hK); refine ⟨by simp, .inl ⟨_, _, rfl, run_takeDeferred hK2, ?_⟩⟩; have e2 := (((hc2.setI 0 (.int .i64 (a : Int))).setOther ⟨w.heap.size + 1, 0, none⟩ (.int .i64 7) (by show w.heap.size + 1 ≠ w.heap.size; omega)).putObj (o' := .deferred none) hK2 rfl).cell 0 _ rfl; have e3 := (((hc3.setOther ⟨w.heap.size, 0, none⟩ (.int .i64 (a : Int)) (by show w.heap.size ≠ w.heap.size + 1; omega)).setI 0 (.int .i64 7)).putObj (o' := .deferred none) hK2 rfl).cell 0 _ rfl; refine ⟨wthV (some (a, 7)), by simp [results, Tryz.results160, go_sem, wthV, e2, e3], by rw [HW.out], ?_⟩; exact ((hB.setCell (p := ⟨w.heap.size, 0, none⟩) (Nat.le_refl _) _).setCell (p := ⟨w.heap.size + 1, 0, none⟩) (by show w.heap.size <= w.heap.size + 1; omega) _).trans (belowK_b (w := w) (Nat.le_refl _) _ D _ _ (by omega) hK2 rfl rfl)
 case stop =>
  rintro D c pre W hD hpre ⟨⟨rfl, d, x, rfl, h1, h2, hc2, hc3⟩, hB⟩ hK; have hW := wth_some (l := s.data.toList) hpre h1 h2; have hl2 := hc2.lt; have hl3 := hc3.lt; have hc2c0 := hc2.cell 0 _ rfl; have hc2f0 := hc2.frozen 0; have hc3c0 := hc3.cell 0 _ rfl; have hc3f0 := hc3.frozen 0
  gi_wp2
  refine ⟨by simp, .inl ⟨_, _, rfl, run_takeDeferred hK, ?_⟩⟩; have e2 := (hc2.putObj (o' := .deferred none) hK rfl).cell 0 _ rfl; have e3 := (hc3.putObj (o' := .deferred none) hK rfl).cell 0 _ rfl; refine ⟨wthV (some (x.1, 3)), by simp [results, Tryz.results160, go_sem, wthV, e2, e3], by rw [hW], ?_⟩; exact hB.trans (belowK_b (w := w) (Nat.le_refl _) W D _ _ (by omega) hK rfl rfl)
end Go.Proofs.YtbcdaaobbebooaaGreatDoor
namespace Go.Proofs.YtbcdaaobbebooaaGreatDoor
set_option maxRecDepth 100000
set_option maxHeartbeats 20000000
theorem idxAny_none {ch : Bs} : ∀ {l : Bs}, (∀ x ∈ l, ch.contains x = false) -> Lib.indexAny l ch = -1
 | [], _ => rfl
 | b :: l, h => by
  rw [Lib.indexAny, h b (List.mem_cons_self ..), idxAny_none (fun x hx => h x (List.mem_cons_of_mem _ hx))]; rfl
theorem idxAny_at {ch : Bs} {m : UInt8} {t : Bs} (hm : ch.contains m = true) : ∀ {l : Bs}, (∀ x ∈ l, ch.contains x = false) -> Lib.indexAny (l ++ m :: t) ch = l.length
 | [], _ => by rw [List.nil_append, Lib.indexAny, if_pos hm]; rfl
 | b :: l, h => by
  rw [List.cons_append, Lib.indexAny, h b (List.mem_cons_self ..), idxAny_at hm (fun x hx => h x (List.mem_cons_of_mem _ hx))]; have : (((l.length : Nat) : Int) == -1) = false := by rw [beq_eq_false_iff_ne]; omega
  rw [this]; simp
theorem idxB_none {c : UInt8} : ∀ {l : Bs}, (∀ x ∈ l, x ≠ c) -> Lib.indexByte l c = -1
 | [], _ => rfl
 | b :: l, h => by
  have h1 : (b == c) = false := by rw [beq_eq_false_iff_ne]; exact h b (List.mem_cons_self ..)
  rw [Lib.indexByte, h1, idxB_none (fun x hx => h x (List.mem_cons_of_mem _ hx))]; rfl
theorem idxB_at {c : UInt8} {t : Bs} : ∀ {l : Bs}, (∀ x ∈ l, x ≠ c) -> Lib.indexByte (l ++ c :: t) c = l.length
 | [], _ => by rw [List.nil_append, Lib.indexByte, if_pos (by simp)]; rfl
 | b :: l, h => by
  have h1 : (b == c) = false := by rw [beq_eq_false_iff_ne]; exact h b (List.mem_cons_self ..)
  rw [List.cons_append, Lib.indexByte, h1, idxB_at (fun x hx => h x (List.mem_cons_of_mem _ hx))]; have : (((l.length : Nat) : Int) == -1) = false := by rw [beq_eq_false_iff_ne]; omega
  rw [this]; simp
def frontT (ip fr : Bs) : Bs := ip ++ (if fr = [] then [] else 46 :: fr)
section
variable {l : Bs} {neg : Bool} {ip fr mk sg pw : Bs}
theorem NumTxt.eq' (h : NumTxt l neg ip fr mk sg pw) : l = (if neg then [45] else []) ++ (frontT ip fr ++ (mk ++ (sg ++ pw))) := by
 rw [frontT, List.append_assoc]; exact h.eq
theorem NumTxt.front_mem (h : NumTxt l neg ip fr mk sg pw) {x : UInt8} (hx : x ∈ frontT ip fr) : dg x = true \/ x = 46 := by
 rw [frontT, List.mem_append] at hx; rcases hx with hx | hx
 ·exact .inl (List.all_eq_true.1 h.dip x hx)
 ·by_cases hf : fr = []
  ·rw [if_pos hf] at hx; simp at hx
  ·rw [if_neg hf] at hx
   rcases List.mem_cons.1 hx with rfl | hx
   ·exact .inr rfl
   ·exact .inl (List.all_eq_true.1 h.dfr x hx)
theorem NumTxt.front_any (h : NumTxt l neg ip fr mk sg pw) : ∀ x ∈ frontT ip fr, ([101, 69] : Bs).contains x = false := by
 intro x hx
 have h3 : x ≠ 101 /\ x ≠ 69 := by
  rcases h.front_mem hx with h1 | rfl
  ·exact ⟨dg_ne h1 (by decide), dg_ne h1 (by decide)⟩
  ·decide
 simp [h3.1, h3.2]
theorem NumTxt.cut (h : NumTxt l neg ip fr mk sg pw) : Lib.hasPrefix l [45] = neg /\ Lib.trimPrefix l [45] = frontT ip fr ++ (mk ++ (sg ++ pw)) := by
 have he := h.eq'
 have hm : neg = false -> Lib.hasPrefix l [45] = false := by
  intro hn; subst hn; rw [he]; have hi := h.ip0; have hd := h.dip; rw [frontT]
  cases ip with
  | nil => exact absurd rfl hi
  | cons c p =>
   have hc := all_head hd (c := c) rfl; show ([45] : Bs).isPrefixOf (c :: _) = false; have : ((45 : UInt8) == c) = false := by rw [beq_eq_false_iff_ne]; exact (dg_ne hc (by decide)).symm
   simp [List.isPrefixOf, this]
 cases neg with
 | true =>
  have : Lib.hasPrefix l [45] = true := by rw [he]; rfl
  exact ⟨this, by rw [Lib.trimPrefix, if_pos this, he]; rfl⟩
 | false =>
  have := hm rfl; exact ⟨this, by rw [Lib.trimPrefix, this, he]; rfl⟩
theorem NumTxt.mark_none (h : NumTxt l neg ip fr mk sg pw) (hm : mk = []) : Lib.indexAny (frontT ip fr ++ (mk ++ (sg ++ pw))) [101, 69] = -1 /\ frontT ip fr ++ (mk ++ (sg ++ pw)) = frontT ip fr /\ powP sg pw = 0 := by
 rcases h.exp with ⟨rfl, rfl, rfl⟩ | ⟨hm2, _, _⟩
 ·simp only [List.append_nil]
  exact ⟨idxAny_none h.front_any, trivial, rfl⟩
 ·subst hm; simp at hm2
theorem NumTxt.mark_some (h : NumTxt l neg ip fr mk sg pw) (hm : mk ≠ []) : Lib.indexAny (frontT ip fr ++ (mk ++ (sg ++ pw))) [101, 69] = (frontT ip fr).length /\ (∃ m, mk = [m]) /\ (sg = [] \/ sg = [43] \/ sg = [45]) /\ pw ≠ [] := by
 rcases h.exp with ⟨rfl, _, _⟩ | ⟨hm2, hs, hp⟩
 ·exact absurd rfl hm
 ·rcases hm2 with rfl | rfl
  ·exact ⟨idxAny_at rfl h.front_any, ⟨_, rfl⟩, hs, hp⟩
  ·exact ⟨idxAny_at rfl h.front_any, ⟨_, rfl⟩, hs, hp⟩
theorem NumTxt.point_none (h : NumTxt l neg ip fr mk sg pw) (hf : fr = []) : Lib.indexByte (frontT ip fr) 46 = -1 /\ frontT ip fr = ip ++ fr := by
 subst hf; have : frontT ip [] = ip := by simp [frontT]
 rw [this]; exact ⟨idxB_none (fun x hx => dg_ne (List.all_eq_true.1 h.dip x hx) (by decide)), by simp⟩
theorem NumTxt.point_some (h : NumTxt l neg ip fr mk sg pw) (hf : fr ≠ []) : Lib.indexByte (frontT ip fr) 46 = ip.length /\ frontT ip fr = ip ++ 46 :: fr := by
 have : frontT ip fr = ip ++ 46 :: fr := by rw [frontT, if_neg hf]
 rw [this]; exact ⟨idxB_at (fun x hx => dg_ne (List.all_eq_true.1 h.dip x hx) (by decide)), rfl⟩
theorem NumTxt.len (h : NumTxt l neg ip fr mk sg pw) : ip.length + fr.length <= l.length /\ (frontT ip fr ++ (mk ++ (sg ++ pw))).length <= l.length /\ (frontT ip fr).length <= l.length /\ (fr ≠ [] -> (frontT ip fr).length = ip.length + fr.length + 1) := by
 have he := congrArg List.length h.eq'
 have hf : (frontT ip fr).length = ip.length + (if fr = [] then 0 else fr.length + 1) := by
  rw [frontT, List.length_append]; split <;> simp
 rw [List.length_append] at he; have h2 : (frontT ip fr ++ (mk ++ (sg ++ pw))).length = (frontT ip fr).length + (mk ++ (sg ++ pw)).length := by rw [List.length_append]
 refine ⟨?_, by omega, by omega, fun h3 => ?_⟩
 ·by_cases hfr : fr = []
  ·subst hfr; simp at hf ⊢; omega
  ·rw [if_neg hfr] at hf; omega
 ·rw [hf, if_neg h3]; omega
theorem NumTxt.ascii (h : NumTxt l neg ip fr mk sg pw) : ∀ x ∈ frontT ip fr ++ (mk ++ (sg ++ pw)), x.toNat < 128 := by
 have hall : ∀ {a : Bs}, a.all dg = true -> ∀ x ∈ a, x.toNat < 128 := fun ha x hx => by have := dg_lt (List.all_eq_true.1 ha x hx); omega
 intro x hx; rcases List.mem_append.1 hx with hx | hx
 ·rcases h.front_mem hx with h1 | rfl
  ·have := dg_lt h1; omega
  ·decide
 ·rcases List.mem_append.1 hx with hx | hx
  ·rcases h.exp with ⟨rfl, rfl, rfl⟩ | ⟨hm, hs, hp⟩
   ·simp at hx
   ·rcases hm with rfl | rfl <;> (simp at hx; subst hx; decide)
  ·rcases List.mem_append.1 hx with hx | hx
   ·rcases h.exp with ⟨rfl, rfl, rfl⟩ | ⟨hm, hs, hp⟩
    ·simp at hx
    ·rcases hs with rfl | rfl | rfl
     ·simp at hx
     ·simp at hx; subst hx; decide
     ·simp at hx; subst hx; decide
   ·exact hall h.dpw x hx
end
end Go.Proofs.YtbcdaaobbebooaaGreatDoor
namespace Go.Proofs.YtbcdaaobbebooaaGreatDoor
set_option maxRecDepth 100000
set_option maxHeartbeats 20000000
open Go.RowKit Go.Tab
def TabS (w : World) : Prop := ∀ j : Nat, j < 63 -> w.cell? ⟨3, j, none⟩ = some (.int .i64 (stepsN.getD j 9 : Nat))
theorem TabS.below {w w' : World} {B : Nat} (h : TabS w) (hb : Below B w w') (hB : 3 < B) : TabS w' := fun j hj => (hb.cell hB).trans (h j hj)
theorem TabS.pos {w : World} (h : TabS w) : 3 < w.heap.size := World.block_lt_of_cell? w _ (h 0 (by decide))
theorem u8_nb {c : UInt8} {n : UInt8} (h : c ≠ n) {m : Int} (hm : (n.toNat : Int) = m) : ((c.toNat : Int) == m) = false := by
 rw [beq_eq_false_iff_ne, <- hm]; exact fun e => h (UInt8.toNat_inj.1 (by omega))
theorem signOf_any (c : UInt8) (w : World) : Calls Tryz.prog 175 #[.int .u8 c.toNat] w fun e w' => e = .returned (.int .i64 (signN c : Nat)) /\ w = w' := by
 unfold signN
 by_cases h1 : c = 45
 ·subst h1
  go_enter Tryz.func175, Tryz.ntmps175; go_wp2; go_ret; exact ⟨rfl, rfl⟩
 have d1 := u8_nb h1 (m := 45) rfl
 by_cases h2 : c = 43
 ·subst h2
  go_enter Tryz.func175, Tryz.ntmps175; go_wp2; go_ret; exact ⟨rfl, rfl⟩
 have d2 := u8_nb h2 (m := 43) rfl
 by_cases h3 : c = 48
 ·subst h3
  go_enter Tryz.func175, Tryz.ntmps175; go_wp2; go_ret; exact ⟨rfl, rfl⟩
 have d3 := u8_nb h3 (m := 48) rfl; rw [if_neg h1, if_neg h2, if_neg h3]
 by_cases h4 : 49 <= c.toNat /\ c.toNat <= 57
 ·rw [if_pos h4]
  go_enter Tryz.func175, Tryz.ntmps175; go_wp2; go_ret; exact ⟨rfl, rfl⟩
 rw [if_neg h4]; have H4 : c.toNat < 49 \/ (49 <= c.toNat /\ 57 < c.toNat) := by omega
 clear h4
 by_cases h5 : c = 46
 ·subst h5
  clear H4; go_enter Tryz.func175, Tryz.ntmps175; go_wp2; go_ret; exact ⟨rfl, rfl⟩
 have d5 := u8_nb h5 (m := 46) rfl; rw [if_neg h5]
 by_cases h6 : c = 101
 ·subst h6
  clear H4; go_enter Tryz.func175, Tryz.ntmps175; go_wp2; go_ret; exact ⟨rfl, rfl⟩
 by_cases h7 : c = 69
 ·subst h7
  clear H4; go_enter Tryz.func175, Tryz.ntmps175; go_wp2; go_ret; exact ⟨rfl, rfl⟩
 have d6 := u8_nb h6 (m := 101) rfl; have d7 := u8_nb h7 (m := 69) rfl; rw [if_neg (by simp [h6, h7])]; clear h1 h2 h3 h5 h6 h7; rcases H4 with h4 | ⟨h4, h8⟩
 all_goals
  go_enter Tryz.func175, Tryz.ntmps175; go_wp2; go_ret; exact ⟨rfl, rfl⟩
theorem whole_yes (st : Nat) (w : World) (h : wholeB st = true) : Calls Tryz.prog 176 #[.int .i64 st] w fun e w' => e = .returned (.bool true) /\ w = w' := by
 have h1 : st = 2 \/ st = 3 \/ st = 5 \/ st = 8 := by simpa [wholeB] using h
 clear h; rcases h1 with rfl | rfl | rfl | rfl
 all_goals
  go_enter Tryz.func176, Tryz.ntmps176; go_wp2; go_ret; exact ⟨rfl, rfl⟩
theorem whole_no (st : Nat) (w : World) (h : wholeB st = false) (hs : st < 9) : Calls Tryz.prog 176 #[.int .i64 st] w fun e w' => e = .returned (.bool false) /\ w = w' := by
 have h1 : st = 0 \/ st = 1 \/ st = 4 \/ st = 6 \/ st = 7 := by
  have h2 : ¬ (st = 2 \/ st = 3 \/ st = 5 \/ st = 8) := by
   intro h3; have : wholeB st = true := by simpa [wholeB] using h3
   rw [h] at this; cases this
  omega
 clear h hs; rcases h1 with rfl | rfl | rfl | rfl | rfl
 all_goals
  go_enter Tryz.func176, Tryz.ntmps176; go_wp2; go_ret; exact ⟨rfl, rfl⟩
theorem stepN_le : ∀ st : Fin 9, ∀ sg : Fin 7, stepN st.val sg.val <= 9 := by decide
theorem signN_lt (c : UInt8) : signN c < 7 := by cases sort6 c <;> omega
theorem drop_at {s : ByteArray} {k : Nat} (h : k < s.size) : s.data.toList.drop k = s[k]'h :: s.data.toList.drop (k + 1) := by
 rw [List.drop_eq_getElem_cons (by simpa using h)]; rfl
theorem Scan_any (s : ByteArray) (w : World) (hT : TabS w) (hs : s.size <= maxLen) :
  Calls Tryz.prog 152 #[.string s] w fun e w' => e = .returned (.int .i64 (scanN s.data.toList : Nat)) /\ ∃ n, w' = w.drewN n := by
 unfold maxLen at hs; go_enter Tryz.func152, Tryz.ntmps152; go_wp2_with fail; go_loopw [3, 4, 8] (fun g t i wr => ∃ k st L : Nat, k <= s.size /\ i = .int .i64 k /\ t = .int .i64 st /\ g = .int .i64 L /\ st < 9 /\ autoS st k L (s.data.toList.drop k) = scanN s.data.toList /\ ∃ n, wr = w.drewN n) (fun _ _ i _ => s.size - (intOf i).toNat)
 case atStart => exact ⟨0, 0, 0, Nat.zero_le _, rfl, rfl, rfl, by decide, auto_scan _, 0, rfl⟩
 case round =>
  obtain ⟨k, st, L, hk, rfl, rfl, rfl, hst, ha, n, rfl⟩ := hrel; have HA := Lib.hid ha; clear ha
  by_cases hlt : k < s.size
  ·have hsg := signN_lt (s[k]'hlt)
   have hF := signOf_any (s[k]'hlt); have hi : (st : Int) < 9 := by omega
   have hj : ((signN (s[k]'hlt) : Nat) : Int) < 7 := by omega
   have hc : w.cell? ⟨3, st * 7 + signN (s[k]'hlt), none⟩ = some (.int .i64 (stepN st (signN (s[k]'hlt)) : Nat)) := by rw [Nat.mul_comm]; exact hT _ (by omega)
   have hA := HA.out; rw [drop_at hlt, auto_cons] at hA; have hle := stepN_le ⟨st, hst⟩ ⟨_, hsg⟩; simp only at hle; generalize signN (s[k]'hlt) = sg at hF hc hA hle hsg hj; generalize stepN st sg = st' at hc hA hle; go_wp2_with fail
   by_cases h9 : st' = 9
   ·rw [if_pos h9] at hA
    have HL := Lib.hid hA; have d9 : ((st' : Int) == 9) = true := by rw [beq_iff_eq]; omega
    clear hA h9 hle; go_quiet (exact (hF _).mono fun _ _ h => ⟨h.1, _, h.2.symm⟩)
    go_wp2; go_ret; exact ⟨by rw [<- HL.out]; rfl, _, rfl⟩
   ·rw [if_neg h9] at hA
    have d9 : ((st' : Int) == 9) = false := by rw [beq_eq_false_iff_ne]; omega
    have hlt9 : st' < 9 := by omega
    clear h9 hle
    by_cases hw : wholeB st' = true
    ·rw [if_pos hw] at hA
     have HL := Lib.hid hA; have hW := fun W => whole_yes st' W hw; clear hA hw; go_quiet (exact (hF _).mono fun _ _ h => ⟨h.1, _, h.2.symm⟩)
     go_wp2_with ((with_reducible refine (hW _).mono ?_); rintro _ _ ⟨rfl, rfl⟩)
     go_roundw
     case rel => exact ⟨k + 1, st', k + 1, by omega, by go_num, rfl, by go_num, hlt9, HL.out, _, rfl⟩
     case measure => simp [intOf]; omega
    ·have hw' : wholeB st' = false := by simpa using hw
     rw [if_neg hw] at hA; have HL := Lib.hid hA; have hW := fun W => whole_no st' W hw' hlt9; clear hA hw hw'; go_quiet (exact (hF _).mono fun _ _ h => ⟨h.1, _, h.2.symm⟩)
     go_wp2_with ((with_reducible refine (hW _).mono ?_); rintro _ _ ⟨rfl, rfl⟩)
     go_roundw
     case rel => exact ⟨k + 1, st', L, by omega, by go_num, rfl, rfl, hlt9, HL.out, _, rfl⟩
     case measure => simp [intOf]; omega
  ·obtain rfl : k = s.size := by omega
   have hl : s.data.toList.drop s.size = [] := by
    rw [List.drop_eq_nil_iff]; exact Nat.le_refl _
   have hA := HA.out; rw [hl] at hA; have HL := Lib.hid (show L = scanN s.data.toList from hA); clear hA HA hl; go_wp2; go_ret; exact ⟨by rw [<- HL.out]; rfl, _, rfl⟩
theorem foldP_lt : ∀ (l : Bs) (n : Nat), n <= 1099511627776 -> l.foldl addP n <= 1099511627776
 | [], _, h => h
 | c :: l, n, _ => by
  rw [List.foldl_cons]; exact foldP_lt l _ (Nat.min_le_right _ _)
theorem foldl_take {α β : Type} (f : α -> β -> α) (a : α) (l : List β) {k : Nat} (h : k < l.length) : (l.take (k + 1)).foldl f a = f ((l.take k).foldl f a) l[k] := by
 rw [List.take_add_one, List.getElem?_eq_getElem h, List.foldl_append]; rfl
theorem neg_end (pw : Bs) (n : Nat) (h : pw.foldl addP 0 <= n) (hn : n <= 1099511627776 := by omega) : Ending.returned (Value.int .i64 (wrap64 (-((pw.foldl addP 0 : Nat) : Int)))) = Ending.returned (Value.int .i64 (powP [45] pw)) := by
 rw [powP, sgn, if_pos rfl]
 congr 2
 unfold wrap64; omega
theorem powerOf_any (S : ByteArray) (sg pw : Bs) (w : World) (hS : S.data.toList = sg ++ pw) (hsg : sg = [] \/ sg = [43] \/ sg = [45]) (hd : pw.all dg = true) (h0 : pw ≠ []) (hl : S.size <= 1048576) :
  Calls Tryz.prog 178 #[.string S] w fun e w' => e = .returned (.int .i64 (powP sg pw)) /\ w = w' := by
 have hdp := Lib.hid hd; have hz : 0 < pw.length := List.length_pos_iff.2 h0; have hs0 := size_list S; rw [hS, List.length_append] at hs0; rcases hsg with rfl | rfl | rfl
 ·have hRs : Hid (S.size = pw.length) := Lib.hid (by simpa using hs0)
  have hpos : 0 < S.size := by rw [hRs.out]; exact hz
  have hRg : ∀ k (h1 : k < S.size) (h2 : k < pw.length), S[k]'h1 = pw[k] := fun k h1 h2 => by
   rw [get_list]; have := congrArg (fun l => l[k]?) hS; simp only [List.nil_append] at this; rw [List.getElem?_eq_getElem h2, List.getElem?_eq_getElem (by rw [<- size_list]; exact h1)] at this; exact Option.some.inj this
  have HR := Lib.hid hRg; clear hRg; have h1 := HR.out 0 hpos hz; have h2 := dg_lt (List.all_eq_true.1 hd pw[0] (List.getElem_mem _)); have d1 : (((S[0]'hpos).toNat : Int) == 45) = false := by rw [h1, beq_eq_false_iff_ne]; omega
  have d2 : (((S[0]'hpos).toNat : Int) == 43) = false := by rw [h1, beq_eq_false_iff_ne]; omega
  clear h1 h2 hd h0 hs0 hS; go_enter Tryz.func178, Tryz.ntmps178; go_wp2_with fail; go_loop [4, 19] (fun n i => ∃ k : Nat, k <= S.size /\ i = .int .i64 k /\ n = .int .i64 ((pw.take k).foldl addP 0 : Nat)) (fun _ i => S.size - (intOf i).toNat)
  case atStart => exact ⟨0, Nat.zero_le _, rfl, rfl⟩
  case round =>
   obtain ⟨k, hk, rfl, rfl⟩ := hrel
   by_cases hlt : k < S.size
   ·have hkp : k < pw.length := by rw [<- hRs.out]; exact hlt
    have hb := foldP_lt (pw.take k) 0 (by omega); have hf := Lib.hid (foldl_take addP 0 pw hkp); have hg : S[k]'hlt = pw[k] := HR.out k hlt hkp; have hd := dg_lt (List.all_eq_true.1 hdp.out pw[k] (List.getElem_mem _)); have hF : Hid (addP ((pw.take k).foldl addP 0) pw[k] = (pw.take (k + 1)).foldl addP 0) := Lib.hid hf.out.symm; clear hf; generalize (pw.take k).foldl addP 0 = m at hb hF ⊢; generalize pw[k] = c at hg hd hF; clear hkp; go_wp2; go_round
    case rel => exact ⟨k + 1, by omega, by go_num, by rw [<- hF.out]; congr 1; unfold addP; omega⟩
    case measure => simp [intOf]; omega
   ·obtain rfl : k = S.size := by omega
    have hf : Hid (pw.take S.size = pw) := Lib.hid (by rw [hRs.out]; exact List.take_length); go_wp2; go_ret; refine ⟨?_, rfl⟩; rw [hf.out]; rfl
 ·have hpos : 0 < S.size := by rw [hs0]; simp; omega
  have hfst : S[0]'hpos = 43 := by
   rw [get_list]; have := congrArg (fun l => l[0]?) hS; rw [List.singleton_append] at this; simp only [List.getElem?_cons_zero] at this; rw [List.getElem?_eq_getElem (by rw [<- size_list]; exact hpos)] at this; exact Option.some.inj this
  obtain ⟨R, hR⟩ : ∃ R, S.extract 1 S.size = R := ⟨_, rfl⟩
  have hRl : R.data.toList = pw := by
   rw [<- hR, ext_list, size_list, List.take_length, hS]; rfl
  have hRs : Hid (R.size = pw.length) := Lib.hid (by rw [size_list, hRl]); have hle : R.size <= 1048576 := by rw [hRs.out]; simp at hs0; omega
  have hsz : S.size = R.size + 1 := by rw [hRs.out, hs0]; simp; omega
  have HR : Hid (∀ k (h1 : k < R.size) (h2 : k < pw.length), R[k]'h1 = pw[k]) := Lib.hid (fun k h1 h2 => by
   subst hRl; rfl)
  have HS := Lib.hid hsz; have h1S : 1 <= S.size := by omega
  have d1 : (((S[0]'hpos).toNat : Int) == 45) = decide (43 = 45) := by rw [hfst]; rfl
  have d2 : (((S[0]'hpos).toNat : Int) == 43) = decide (43 = 43) := by rw [hfst]; rfl
  have hlen : S.size - 1 = R.size := by omega
  clear hd h0 hs0 hS hfst hRl hsz; go_enter Tryz.func178, Tryz.ntmps178; go_wp2_with fail; go_loop [4, 19] (fun n i => ∃ k : Nat, k <= R.size /\ i = .int .i64 k /\ n = .int .i64 ((pw.take k).foldl addP 0 : Nat)) (fun _ i => R.size - (intOf i).toNat)
  case atStart => exact ⟨0, Nat.zero_le _, rfl, rfl⟩
  case round =>
   obtain ⟨k, hk, rfl, rfl⟩ := hrel
   by_cases hlt : k < R.size
   ·have hkp : k < pw.length := by rw [<- hRs.out]; exact hlt
    have hb := foldP_lt (pw.take k) 0 (by omega); have hf := Lib.hid (foldl_take addP 0 pw hkp); have hg : R[k]'hlt = pw[k] := HR.out k hlt hkp; have hd := dg_lt (List.all_eq_true.1 hdp.out pw[k] (List.getElem_mem _)); have hF : Hid (addP ((pw.take k).foldl addP 0) pw[k] = (pw.take (k + 1)).foldl addP 0) := Lib.hid hf.out.symm; clear hf; generalize (pw.take k).foldl addP 0 = m at hb hF ⊢; generalize pw[k] = c at hg hd hF; clear hkp; go_wp2; go_round
    case rel => exact ⟨k + 1, by omega, by go_num, by rw [<- hF.out]; congr 1; unfold addP; omega⟩
    case measure => simp [intOf]; omega
   ·obtain rfl : k = R.size := by omega
    have hf : Hid (pw.take R.size = pw) := Lib.hid (by rw [hRs.out]; exact List.take_length); go_wp2; go_ret; refine ⟨?_, rfl⟩; rw [hf.out]; rfl
 ·have hpos : 0 < S.size := by rw [hs0]; simp; omega
  have hfst : S[0]'hpos = 45 := by
   rw [get_list]; have := congrArg (fun l => l[0]?) hS; rw [List.singleton_append] at this; simp only [List.getElem?_cons_zero] at this; rw [List.getElem?_eq_getElem (by rw [<- size_list]; exact hpos)] at this; exact Option.some.inj this
  obtain ⟨R, hR⟩ : ∃ R, S.extract 1 S.size = R := ⟨_, rfl⟩
  have hRl : R.data.toList = pw := by
   rw [<- hR, ext_list, size_list, List.take_length, hS]; rfl
  have hRs : Hid (R.size = pw.length) := Lib.hid (by rw [size_list, hRl]); have hle : R.size <= 1048576 := by rw [hRs.out]; simp at hs0; omega
  have hsz : S.size = R.size + 1 := by rw [hRs.out, hs0]; simp; omega
  have HR : Hid (∀ k (h1 : k < R.size) (h2 : k < pw.length), R[k]'h1 = pw[k]) := Lib.hid (fun k h1 h2 => by
   subst hRl; rfl)
  have HS := Lib.hid hsz; have h1S : 1 <= S.size := by omega
  have d1 : (((S[0]'hpos).toNat : Int) == 45) = decide (45 = 45) := by rw [hfst]; rfl
  have d2 : (((S[0]'hpos).toNat : Int) == 43) = decide (45 = 43) := by rw [hfst]; rfl
  have hlen : S.size - 1 = R.size := by omega
  clear hd h0 hs0 hS hfst hRl hsz; go_enter Tryz.func178, Tryz.ntmps178; go_wp2_with fail; go_loop [4, 19] (fun n i => ∃ k : Nat, k <= R.size /\ i = .int .i64 k /\ n = .int .i64 ((pw.take k).foldl addP 0 : Nat)) (fun _ i => R.size - (intOf i).toNat)
  case atStart => exact ⟨0, Nat.zero_le _, rfl, rfl⟩
  case round =>
   obtain ⟨k, hk, rfl, rfl⟩ := hrel
   by_cases hlt : k < R.size
   ·have hkp : k < pw.length := by rw [<- hRs.out]; exact hlt
    have hb := foldP_lt (pw.take k) 0 (by omega); have hf := Lib.hid (foldl_take addP 0 pw hkp); have hg : R[k]'hlt = pw[k] := HR.out k hlt hkp; have hd := dg_lt (List.all_eq_true.1 hdp.out pw[k] (List.getElem_mem _)); have hF : Hid (addP ((pw.take k).foldl addP 0) pw[k] = (pw.take (k + 1)).foldl addP 0) := Lib.hid hf.out.symm; clear hf; generalize (pw.take k).foldl addP 0 = m at hb hF ⊢; generalize pw[k] = c at hg hd hF; clear hkp; go_wp2; go_round
    case rel => exact ⟨k + 1, by omega, by go_num, by rw [<- hF.out]; congr 1; unfold addP; omega⟩
    case measure => simp [intOf]; omega
   ·obtain rfl : k = R.size := by omega
    have hf : Hid (pw.take R.size = pw) := Lib.hid (by rw [hRs.out]; exact List.take_length); go_wp2; go_ret; refine ⟨?_, rfl⟩; rw [hf.out]; exact neg_end _ _ (foldP_lt pw 0 (by omega))
theorem clone_any (s : ByteArray) (w : World) (hs : s.size <= 1048576) : Calls Tryz.prog 181 #[.string s] w fun e w' => e = .returned (.string s) /\ Below w.heap.size w w' := by
 have hF := fun W => Go.Proofs.Tryz.stringslite_Clone s W (by omega); go_enter Tryz.func181, Tryz.ntmps181; go_wp2_with fail; refine (hF _).mono ?_; rintro _ w1 ⟨rfl, hb⟩; go_wp2; go_ret; exact ⟨rfl, hb⟩
def numOut (r : (Bool × Bs × Int) × Int) : Value := .tuple #[.agg #[.bool r.1.1, .string (strL r.1.2.1), .int .i64 r.1.2.2], .int .i64 r.2]
theorem Parse_bad (s : ByteArray) (w : World) (hT : TabS w) (hs : s.size <= 1048576) (h : s.data.toList = [] \/ scanN s.data.toList ≠ s.size) :
  Calls Tryz.prog 153 #[.string s] w fun e w' => e = .returned (numOut ((false, [], 0), 3)) /\ Below w.heap.size w w' := by
 by_cases h0 : s.size = 0
 ·have hd : s = ⟨#[]⟩ := emp_of h0
  subst hd; clear h h0 hs; go_enter Tryz.func153, Tryz.ntmps153; go_wp2; refine bodyPost_ret (v := numOut ((false, [], 0), 3)) (by simp [results, Tryz.results153, go_sem, numOut, strL]) rfl ⟨rfl, ?_⟩
  (repeat' first | with_reducible refine Below.setCell ?_ ?_ _ | with_reducible refine Below.alloc ?_ ?_ _ | with_reducible refine Below.drew ?_ | with_reducible refine below_drewN ?_ _ | with_reducible assumption | with_reducible exact Below.refl _ _ | (simp only [World.size_alloc, World.size_setCell, World.size_drew]; first | done | omega) | omega)
 ·have hne := ne_emp h0
  have hn : ((scanN s.data.toList : Int) != (s.size : Int)) = true := by
   rcases h with h | h
   ·rw [size_list, h] at h0; exact absurd rfl h0
   ·rw [bne_iff_ne]; omega
  have hS := Scan_any s (w.alloc (.cells #[.bool false, .string ⟨#[]⟩, .int .i64 0] 122)) (fun j hj => by rw [World.cell?_alloc_past _ _ _ hT.pos]; exact hT j hj) (by unfold maxLen; omega); clear h h0; go_enter Tryz.func153, Tryz.ntmps153; go_wp2_with fail; refine hS.mono ?_; rintro _ w1 ⟨rfl, n, rfl⟩; go_wp2; refine bodyPost_ret (v := numOut ((false, [], 0), 3)) (by simp [results, Tryz.results153, go_sem, numOut, strL]) rfl ⟨rfl, ?_⟩
  (repeat' first | with_reducible refine Below.setCell ?_ ?_ _ | with_reducible refine Below.alloc ?_ ?_ _ | with_reducible refine Below.drew ?_ | with_reducible refine below_drewN ?_ _ | with_reducible assumption | with_reducible exact Below.refl _ _ | (simp only [World.size_alloc, World.size_setCell, World.size_drew]; first | done | omega) | omega)
theorem powP_bounds (sg pw : Bs) : -1099511627776 <= powP sg pw /\ powP sg pw <= 1099511627776 := by
 have := foldP_lt pw 0 (by omega); unfold powP sgn; split <;> omega
theorem strL_ext (l : Bs) (a b : Nat) : (strL l).extract a b = strL ((l.take b).drop a) := str_ext (by rw [ext_list, strL_list, strL_list])
theorem idxAny_walk (l : Bs) (v : Int) (W : World) (hl : l.length <= 1048576) (ha : ∀ x ∈ l, x.toNat < 128) (hv : Lib.indexAny l [101, 69] = v) :
  Calls Tryz.prog 166 #[.string (strL l), .string ⟨#[101, 69]⟩] W fun e w' => e = .returned (.int .i64 v) /\ Below W.heap.size W w' := by
 subst hv; refine Go.Proofs.Tryz.strings_IndexAny_laid (strL l) ⟨#[101, 69]⟩ W (by rw [size_strL]; omega) (by decide) (fun j b hb => ha b (List.mem_of_getElem? hb)) (fun j b hb => ?_); have hm : b ∈ ([101, 69] : Bs) := List.mem_of_getElem? hb; simp at hm
 rcases hm with rfl | rfl <;> decide
theorem Parse_good (s : ByteArray) (neg : Bool) (ip fr mk sg pw : Bs) (w : World) (hT : TabS w) (hs : s.size <= 1048576) (h : NumTxt s.data.toList neg ip fr mk sg pw) :
  Calls Tryz.prog 153 #[.string s] w fun e w' => e = .returned (numOut (numVal neg ip fr (powP sg pw))) /\ Below w.heap.size w w' := by
 have hne : s.toList.isEmpty = false := ne_emp (by rw [size_list]; exact len_pos h.scan.2)
 have hn : ((scanN s.data.toList : Int) != (s.size : Int)) = false := by
  rw [h.scan.1, size_list]; exact bne_self_eq_false _
 have hS := Scan_any s (w.alloc (.cells #[.bool false, .string ⟨#[]⟩, .int .i64 0] 122)) (fun j hj => by rw [World.cell?_alloc_past _ _ _ hT.pos]; exact hT j hj) (by unfold maxLen; omega); have hlen := h.len; have hC : ∀ W, Calls Tryz.prog 177 #[.string s, .string ⟨#[45]⟩] W fun e w' => e = .returned (.tuple #[.string (strL (frontT ip fr ++ (mk ++ (sg ++ pw)))), .bool neg]) /\ W = w' := fun W => (Go.Proofs.Tryz.strings_CutPrefix s ⟨#[45]⟩ W).mono fun e w' ⟨h1, h2⟩ => ⟨by rw [h1]; show Ending.returned (.tuple #[.string ⟨(Lib.trimPrefix s.data.toList [45]).toArray⟩, .bool (Lib.hasPrefix s.data.toList [45])]) = _; rw [h.cut.1, h.cut.2]; rfl, h2.symm⟩; obtain ⟨p, hp⟩ : ∃ p, powP sg pw = p := ⟨_, rfl⟩; have hpb := powP_bounds sg pw; rw [hp] at hpb; have hP := Lib.hid hp; have hDL := trimL_le (ip ++ fr); have hCL : (valC ip fr).length <= (valD ip fr).length := trimR_le _; rw [List.length_append] at hDL; change (valD ip fr).length <= _ at hDL; rw [<- size_list] at hlen; obtain ⟨l1, l2, l3, l4⟩ := hlen; have hTL : ∀ W, Calls Tryz.prog 179 #[.string (strL (ip ++ fr)), .string ⟨#[48]⟩] W fun e w' => e = .returned (.string (strL (valD ip fr))) /\ W = w' := fun W => (Go.Proofs.Tryz.strings_TrimLeft_one (strL (ip ++ fr)) 48 (by decide) W).mono fun _ _ h => ⟨h.1, h.2.symm⟩; have hTR : ∀ W, Calls Tryz.prog 159 #[.string (strL (valD ip fr)), .string ⟨#[48]⟩] W fun e w' => e = .returned (.string (strL (valC ip fr))) /\ W = w' := fun W => (Go.Proofs.Tryz.strings_TrimRight_one (strL (valD ip fr)) 48 (by decide) W (by rw [size_strL]; omega)).mono fun _ _ h => ⟨h.1, h.2.symm⟩
 have hIA := fun W v (hv : Lib.indexAny (frontT ip fr ++ (mk ++ (sg ++ pw))) [101, 69] = v) => idxAny_walk (frontT ip fr ++ (mk ++ (sg ++ pw))) v W (by omega) h.ascii hv
 by_cases hm : mk = []
 focus
  obtain ⟨m1, m2, m3⟩ := h.mark_none hm; have hI := fun W => hIA W _ m1; rw [hp] at m3; rw [m2] at hC hI; clear hIA m1 m2
  by_cases hf : fr = []
  focus
   obtain ⟨p1, p2⟩ := h.point_none hf; have hB : ∀ W, Calls Tryz.prog 87 #[.string (strL (frontT ip fr)), .int .u8 46] W fun e w' => e = .returned (.int .i64 (-1)) /\ W = w' := fun W => (Go.Proofs.Tryz.strings_IndexByte (strL (frontT ip fr)) 46 W).mono fun e w' ⟨h1, h2⟩ => ⟨by rw [h1]; show Ending.returned (.int .i64 (Lib.indexByte (frontT ip fr) 46)) = _; rw [p1], h2.symm⟩; rw [p2] at hB hC hI; have hdl : fr.length = 0 := by rw [hf]; rfl
   have szD : (strL (valD ip fr)).size = (valD ip fr).length := size_strL _; have szC : (strL (valC ip fr)).size = (valC ip fr).length := size_strL _; clear h hm hf p1 p2 hp l4; generalize strL (ip ++ fr) = G at *; generalize hD : strL (valD ip fr) = D at hTL hTR szD; generalize hCe : strL (valC ip fr) = C at hTR szC; have HC := Lib.hid hCe; have SD := Lib.hid szD; have SC := Lib.hid szC; have hCD : C.size <= D.size := by omega
   have hDm : D.size <= 1048576 := by omega
   clear hD hCe szD szC hDL hCL; obtain ⟨E, hE⟩ : ∃ E : Int, E = (D.size : Int) - (C.size : Int) := ⟨_, rfl⟩; have hx0 : ∀ n, Cells ((w.alloc (.cells #[.bool false, .string ⟨#[]⟩, .int .i64 0] 122)).drewN n) w.heap.size #[.bool false, .string ⟨#[]⟩, .int .i64 0] 122 := fun n => (Cells.new w _ _).drewN n; have hb0 : ∀ n, Below w.heap.size w ((w.alloc (.cells #[.bool false, .string ⟨#[]⟩, .int .i64 0] 122)).drewN n) := fun n => below_drewN ((Below.refl _ w).alloc (Nat.le_refl _) _) n; go_enter Tryz.func153, Tryz.ntmps153; go_wp2_with fail; refine hS.mono ?_; clear hS; rintro _ w1 ⟨rfl, n, rfl⟩; go_wp2_with fail; refine (hC _).mono ?_; rintro _ _ ⟨rfl, rfl⟩; go_wp2_with fail; refine (hI _).mono ?_; rintro _ w4 ⟨rfl, hb⟩; have hx := (hx0 n).below hb (hx0 n).lt; have hb := (hb0 n).trans (hb.mono (hb0 n).size); clear hx0 hb0; have hxc0 := hx.cell 0 _ rfl; have hxf0 := hx.frozen 0; have hxc1 := hx.cell 1 _ rfl; have hxf1 := hx.frozen 1; have hxc2 := hx.cell 2 _ rfl; have hxf2 := hx.frozen 2; go_wp2_with fail; refine (hB _).mono ?_; rintro _ _ ⟨rfl, rfl⟩
  rotate_left
  focus
   obtain ⟨p1, p2⟩ := h.point_some hf; have hB : ∀ W, Calls Tryz.prog 87 #[.string (strL (frontT ip fr)), .int .u8 46] W fun e w' => e = .returned (.int .i64 (ip.length : Nat)) /\ W = w' := fun W => (Go.Proofs.Tryz.strings_IndexByte (strL (frontT ip fr)) 46 W).mono fun e w' ⟨h1, h2⟩ => ⟨by rw [h1]; show Ending.returned (.int .i64 (Lib.indexByte (frontT ip fr) 46)) = _; rw [p1], h2.symm⟩; have hl4 := l4 hf; have hsF : (strL (frontT ip fr)).size = (frontT ip fr).length := size_strL _
   have hsl : (strL (frontT ip fr)).extract 0 ip.length ++ (strL (frontT ip fr)).extract (ip.length + 1) (strL (frontT ip fr)).size = strL (ip ++ fr) := by
    refine str_ext ?_; rw [app_list, ext_list, ext_list, size_strL, strL_list, List.take_length, p2, strL_list]; have e1 : (ip ++ 46 :: fr).drop (ip.length + 1) = fr := by rw [<- List.drop_drop, List.drop_left]; rfl
    rw [e1, List.take_left]; simp
   generalize strL (frontT ip fr) = F at *; have hF1 : ip.length <= F.size := by omega
   have hF2 : ip.length + 1 <= F.size := by omega
   have hF3 : F.size <= 1048576 := by omega
   have hFl : Hid (F.size = ip.length + fr.length + 1) := Lib.hid (by omega); clear hl4 hsF; have szD : (strL (valD ip fr)).size = (valD ip fr).length := size_strL _; have szC : (strL (valC ip fr)).size = (valC ip fr).length := size_strL _; clear h hm hf p1 p2 hp l4; generalize strL (ip ++ fr) = G at *; generalize hD : strL (valD ip fr) = D at hTL hTR szD; generalize hCe : strL (valC ip fr) = C at hTR szC; have HC := Lib.hid hCe; have SD := Lib.hid szD; have SC := Lib.hid szC; have hCD : C.size <= D.size := by omega
   have hDm : D.size <= 1048576 := by omega
   clear hD hCe szD szC hDL hCL; obtain ⟨E, hE⟩ : ∃ E : Int, E = -((F.size : Int) - (ip.length : Int) - 1) + ((D.size : Int) - (C.size : Int)) := ⟨_, rfl⟩; have hEf : Hid (F.size = ip.length + fr.length + 1) := hFl; have hx0 : ∀ n, Cells ((w.alloc (.cells #[.bool false, .string ⟨#[]⟩, .int .i64 0] 122)).drewN n) w.heap.size #[.bool false, .string ⟨#[]⟩, .int .i64 0] 122 := fun n => (Cells.new w _ _).drewN n; have hb0 : ∀ n, Below w.heap.size w ((w.alloc (.cells #[.bool false, .string ⟨#[]⟩, .int .i64 0] 122)).drewN n) := fun n => below_drewN ((Below.refl _ w).alloc (Nat.le_refl _) _) n; go_enter Tryz.func153, Tryz.ntmps153; go_wp2_with fail; refine hS.mono ?_; clear hS; rintro _ w1 ⟨rfl, n, rfl⟩; go_wp2_with fail; refine (hC _).mono ?_; rintro _ _ ⟨rfl, rfl⟩; go_wp2_with fail; refine (hI _).mono ?_; rintro _ w1 ⟨rfl, hb⟩; have hx := (hx0 n).below hb (hx0 n).lt; have hb := (hb0 n).trans (hb.mono (hb0 n).size); clear hx0 hb0; have hxc0 := hx.cell 0 _ rfl; have hxf0 := hx.frozen 0; have hxc1 := hx.cell 1 _ rfl; have hxf1 := hx.frozen 1; have hxc2 := hx.cell 2 _ rfl; have hxf2 := hx.frozen 2; go_wp2_with fail; refine (hB _).mono ?_; rintro _ _ ⟨rfl, rfl⟩; go_wp2_with fail; go_region
   have hxd := hx.drew; have hbd : Below w.heap.size w w1.drew := Below.drew hb; clear hx hb hxc0 hxc1 hxc2 hxf0 hxf1 hxf2; generalize w1.drew = w4 at hxd hbd ⊢; have hx := hxd; have hb := hbd; clear hxd hbd; have hxc0 := hx.cell 0 _ rfl; have hxf0 := hx.frozen 0; have hxc1 := hx.cell 1 _ rfl; have hxf1 := hx.frozen 1; have hxc2 := hx.cell 2 _ rfl; have hxf2 := hx.frozen 2
 rotate_left 2
 focus
  obtain ⟨m1, ⟨m, hmk⟩, m3, m4⟩ := h.mark_some hm; subst hmk; have hI := fun W => hIA W _ m1; have hsT : (strL (frontT ip fr ++ ([m] ++ (sg ++ pw)))).size = (frontT ip fr ++ ([m] ++ (sg ++ pw))).length := size_strL _
  have hPw : ∀ W, Calls Tryz.prog 178 #[.string (strL (sg ++ pw))] W fun e w' => e = .returned (.int .i64 p) /\ W = w' := fun W => by
   rw [<- hp]; refine powerOf_any _ sg pw W rfl m3 h.dpw m4 ?_; rw [size_strL]; simp only [List.length_append] at l2 ⊢; omega
  have hs1 : (strL (frontT ip fr ++ ([m] ++ (sg ++ pw)))).extract ((frontT ip fr).length + 1) (strL (frontT ip fr ++ ([m] ++ (sg ++ pw)))).size = strL (sg ++ pw) := by
   rw [hsT, strL_ext, List.take_length, <- List.drop_drop, List.drop_left]; rfl
  have hs2 : (strL (frontT ip fr ++ ([m] ++ (sg ++ pw)))).extract 0 (frontT ip fr).length = strL (frontT ip fr) := by
   rw [strL_ext, List.take_left]; rfl
  have hi1 : (frontT ip fr).length + 1 <= (strL (frontT ip fr ++ ([m] ++ (sg ++ pw)))).size := by rw [hsT]; simp
  have hi0 : (frontT ip fr).length <= (strL (frontT ip fr ++ ([m] ++ (sg ++ pw)))).size := by omega
  have hiT : (strL (frontT ip fr ++ ([m] ++ (sg ++ pw)))).size <= 1048576 := by omega
  generalize strL (frontT ip fr ++ ([m] ++ (sg ++ pw))) = T at *; generalize strL (sg ++ pw) = P at *; obtain ⟨q, hq⟩ : ∃ q, (frontT ip fr).length = q := ⟨_, rfl⟩; rw [hq] at hI hs1 hs2 hi1 hi0; clear hIA m1 m3 m4 hsT l2
  by_cases hf : fr = []
  focus
   obtain ⟨p1, p2⟩ := h.point_none hf; have hB : ∀ W, Calls Tryz.prog 87 #[.string (strL (frontT ip fr)), .int .u8 46] W fun e w' => e = .returned (.int .i64 (-1)) /\ W = w' := fun W => (Go.Proofs.Tryz.strings_IndexByte (strL (frontT ip fr)) 46 W).mono fun e w' ⟨h1, h2⟩ => ⟨by rw [h1]; show Ending.returned (.int .i64 (Lib.indexByte (frontT ip fr) 46)) = _; rw [p1], h2.symm⟩; rw [p2] at hB hs2; have hdl : fr.length = 0 := by rw [hf]; rfl
   clear hq l3; have szD : (strL (valD ip fr)).size = (valD ip fr).length := size_strL _; have szC : (strL (valC ip fr)).size = (valC ip fr).length := size_strL _; clear h hm hf p1 p2 hp l4; generalize strL (ip ++ fr) = G at *; generalize hD : strL (valD ip fr) = D at hTL hTR szD; generalize hCe : strL (valC ip fr) = C at hTR szC; have HC := Lib.hid hCe; have SD := Lib.hid szD; have SC := Lib.hid szC; have hCD : C.size <= D.size := by omega
   have hDm : D.size <= 1048576 := by omega
   clear hD hCe szD szC hDL hCL; obtain ⟨E, hE⟩ : ∃ E : Int, E = p + ((D.size : Int) - (C.size : Int)) := ⟨_, rfl⟩; have hx0 : ∀ n, Cells ((w.alloc (.cells #[.bool false, .string ⟨#[]⟩, .int .i64 0] 122)).drewN n) w.heap.size #[.bool false, .string ⟨#[]⟩, .int .i64 0] 122 := fun n => (Cells.new w _ _).drewN n; have hb0 : ∀ n, Below w.heap.size w ((w.alloc (.cells #[.bool false, .string ⟨#[]⟩, .int .i64 0] 122)).drewN n) := fun n => below_drewN ((Below.refl _ w).alloc (Nat.le_refl _) _) n; go_enter Tryz.func153, Tryz.ntmps153; go_wp2_with fail; refine hS.mono ?_; clear hS; rintro _ w1 ⟨rfl, n, rfl⟩; go_wp2_with fail; refine (hC _).mono ?_; rintro _ _ ⟨rfl, rfl⟩; go_wp2_with fail; refine (hI _).mono ?_; rintro _ w4 ⟨rfl, hb⟩; have hx := (hx0 n).below hb (hx0 n).lt; have hb := (hb0 n).trans (hb.mono (hb0 n).size); clear hx0 hb0; have hxc0 := hx.cell 0 _ rfl; have hxf0 := hx.frozen 0; have hxc1 := hx.cell 1 _ rfl; have hxf1 := hx.frozen 1; have hxc2 := hx.cell 2 _ rfl; have hxf2 := hx.frozen 2; go_wp2_with fail; refine (hPw _).mono ?_; rintro _ _ ⟨rfl, rfl⟩; go_wp2_with fail; refine (hB _).mono ?_; rintro _ _ ⟨rfl, rfl⟩
  rotate_left
  focus
   obtain ⟨p1, p2⟩ := h.point_some hf; have hB : ∀ W, Calls Tryz.prog 87 #[.string (strL (frontT ip fr)), .int .u8 46] W fun e w' => e = .returned (.int .i64 (ip.length : Nat)) /\ W = w' := fun W => (Go.Proofs.Tryz.strings_IndexByte (strL (frontT ip fr)) 46 W).mono fun e w' ⟨h1, h2⟩ => ⟨by rw [h1]; show Ending.returned (.int .i64 (Lib.indexByte (frontT ip fr) 46)) = _; rw [p1], h2.symm⟩; have hl4 := l4 hf; clear hq; have hsF : (strL (frontT ip fr)).size = (frontT ip fr).length := size_strL _
   have hsl : (strL (frontT ip fr)).extract 0 ip.length ++ (strL (frontT ip fr)).extract (ip.length + 1) (strL (frontT ip fr)).size = strL (ip ++ fr) := by
    refine str_ext ?_; rw [app_list, ext_list, ext_list, size_strL, strL_list, List.take_length, p2, strL_list]; have e1 : (ip ++ 46 :: fr).drop (ip.length + 1) = fr := by rw [<- List.drop_drop, List.drop_left]; rfl
    rw [e1, List.take_left]; simp
   generalize strL (frontT ip fr) = F at *; have hF1 : ip.length <= F.size := by omega
   have hF2 : ip.length + 1 <= F.size := by omega
   have hF3 : F.size <= 1048576 := by omega
   have hFl : Hid (F.size = ip.length + fr.length + 1) := Lib.hid (by omega); clear hl4 hsF; have szD : (strL (valD ip fr)).size = (valD ip fr).length := size_strL _; have szC : (strL (valC ip fr)).size = (valC ip fr).length := size_strL _; clear h hm hf p1 p2 hp l4; generalize strL (ip ++ fr) = G at *; generalize hD : strL (valD ip fr) = D at hTL hTR szD; generalize hCe : strL (valC ip fr) = C at hTR szC; have HC := Lib.hid hCe; have SD := Lib.hid szD; have SC := Lib.hid szC; have hCD : C.size <= D.size := by omega
   have hDm : D.size <= 1048576 := by omega
   clear hD hCe szD szC hDL hCL; obtain ⟨E, hE⟩ : ∃ E : Int, E = p - ((F.size : Int) - (ip.length : Int) - 1) + ((D.size : Int) - (C.size : Int)) := ⟨_, rfl⟩; have hx0 : ∀ n, Cells ((w.alloc (.cells #[.bool false, .string ⟨#[]⟩, .int .i64 0] 122)).drewN n) w.heap.size #[.bool false, .string ⟨#[]⟩, .int .i64 0] 122 := fun n => (Cells.new w _ _).drewN n; have hb0 : ∀ n, Below w.heap.size w ((w.alloc (.cells #[.bool false, .string ⟨#[]⟩, .int .i64 0] 122)).drewN n) := fun n => below_drewN ((Below.refl _ w).alloc (Nat.le_refl _) _) n; go_enter Tryz.func153, Tryz.ntmps153; go_wp2_with fail; refine hS.mono ?_; clear hS; rintro _ w1 ⟨rfl, n, rfl⟩; go_wp2_with fail; refine (hC _).mono ?_; rintro _ _ ⟨rfl, rfl⟩; go_wp2_with fail; refine (hI _).mono ?_; rintro _ w1 ⟨rfl, hb⟩; have hx := (hx0 n).below hb (hx0 n).lt; have hb := (hb0 n).trans (hb.mono (hb0 n).size); clear hx0 hb0; have hxc0 := hx.cell 0 _ rfl; have hxf0 := hx.frozen 0; have hxc1 := hx.cell 1 _ rfl; have hxf1 := hx.frozen 1; have hxc2 := hx.cell 2 _ rfl; have hxf2 := hx.frozen 2; go_wp2_with fail; refine (hPw _).mono ?_; rintro _ _ ⟨rfl, rfl⟩; go_wp2_with fail; refine (hB _).mono ?_; rintro _ _ ⟨rfl, rfl⟩; go_wp2_with fail; go_region
   have hxd := hx.drew; have hbd : Below w.heap.size w w1.drew := Below.drew hb; clear hx hb hxc0 hxc1 hxc2 hxf0 hxf1 hxf2; generalize w1.drew = w4 at hxd hbd ⊢; have hx := hxd; have hb := hbd; clear hxd hbd; have hxc0 := hx.cell 0 _ rfl; have hxf0 := hx.frozen 0; have hxc1 := hx.cell 1 _ rfl; have hxf1 := hx.frozen 1; have hxc2 := hx.cell 2 _ rfl; have hxf2 := hx.frozen 2
 all_goals
  go_wp2_with fail; refine (hTL _).mono ?_; rintro _ _ ⟨rfl, rfl⟩; go_wp2_with fail; refine (hTR _).mono ?_; rintro _ _ ⟨rfl, rfl⟩
  by_cases hz : C.size = 0
  ·have hCz := emp_of hz
   have hV := Lib.hid (show numVal neg ip fr (powP sg pw) = ((false, [], 0), 0) by
    rw [numVal, if_pos (List.eq_nil_of_length_eq_zero (by have := SC.out; omega))])
   clear hz; subst hCz; go_wp2; refine bodyPost_ret (v := numOut ((false, [], 0), 0)) (by simp [results, Tryz.results153, go_sem, numOut, strL, hxc0, hxc1, hxc2]) rfl ⟨by rw [hV.out], ?_⟩
   (repeat' first | with_reducible refine Below.setCell ?_ ?_ _ | with_reducible refine Below.alloc ?_ ?_ _ | with_reducible refine Below.drew ?_ | with_reducible refine below_drewN ?_ _ | with_reducible assumption | with_reducible exact Below.refl _ _ | (simp only [World.size_alloc, World.size_setCell, World.size_drew]; first | done | omega) | omega)
  ·have hCn := ne_emp hz
   have hR := fun W => numRight_any neg C E W (by omega)
   have hV := Lib.hid (show numVal neg ip fr (powP sg pw) = if numR neg C E then ((neg, valC ip fr, E), 0) else ((false, [], 0), 4) by
    have hc0 : valC ip fr ≠ [] := fun e => hz (by rw [SC.out, e]; rfl); have hEE : valE ip fr (powP sg pw) = E := by have := SC.out; have := SD.out; have := hP.out; (try have := hFl.out); unfold valE; omega
    rw [numVal, if_neg hc0, hEE, show (⟨(valC ip fr).toArray⟩ : ByteArray) = C from HC.out])
   have hE2 := Lib.hid hE; have hE' := hE.symm; clear hz hE; go_wp2_with fail; refine (hR _).mono ?_; clear hR; rintro _ w2 ⟨rfl, hb2⟩; have hx1 := (hx.alloc (.cells #[.bool neg, .string C, .int .i64 E] 122)).below hb2 (hx.alloc _).lt; have hy1 := (Cells.new w4 #[.bool neg, .string C, .int .i64 E] 122).below hb2 (Cells.new _ _ _).lt; have hb3 := (hb.alloc hb.size (.cells #[.bool neg, .string C, .int .i64 E] 122)).trans (hb2.mono (by simp only [World.size_alloc]; have := hb.size; omega)); have hsz := hb.size; have hne3 : w.heap.size ≠ w4.heap.size := fun e => by have := hx.lt; omega
   clear hb2 hxc0 hxc1 hxc2 hxf0 hxf1 hxf2; have hx1c0 := hx1.cell 0 _ rfl; have hx1f0 := hx1.frozen 0; have hx1c1 := hx1.cell 1 _ rfl; have hx1f1 := hx1.frozen 1; have hx1c2 := hx1.cell 2 _ rfl; have hx1f2 := hx1.frozen 2; have hy1c0 := hy1.cell 0 _ rfl; have hy1f0 := hy1.frozen 0; have hy1c1 := hy1.cell 1 _ rfl; have hy1f1 := hy1.frozen 1; have hy1c2 := hy1.cell 2 _ rfl; have hy1f2 := hy1.frozen 2
   by_cases hr : numR neg C E = true
   ·have hV2 := Lib.hid (show numVal neg ip fr (powP sg pw) = ((neg, valC ip fr, E), 0) by rw [hV.out, if_pos hr])
    have hCl := fun W => clone_any C W (by omega); clear hV; go_wp2_with fail; refine (hCl _).mono ?_; rintro _ w3 ⟨rfl, hb4⟩; have hx2 := hx1.below hb4 hx1.lt; have hy2 := hy1.below hb4 hy1.lt; have hb5 := hb3.trans (hb4.mono hb3.size); have hsz2 := hb5.size; clear hb4 hx1c0 hx1c1 hx1c2 hx1f0 hx1f1 hx1f2 hy1c0 hy1c1 hy1c2 hy1f0 hy1f1 hy1f2; have hx2c0 := hx2.cell 0 _ rfl; have hx2f0 := hx2.frozen 0; have hx2c1 := hx2.cell 1 _ rfl; have hx2f1 := hx2.frozen 1; have hx2c2 := hx2.cell 2 _ rfl; have hx2f2 := hx2.frozen 2; have hy2c0 := hy2.cell 0 _ rfl; have hy2f0 := hy2.frozen 0; have hy2c1 := hy2.cell 1 _ rfl; have hy2f1 := hy2.frozen 1; have hy2c2 := hy2.cell 2 _ rfl; have hy2f2 := hy2.frozen 2; go_wp2; have hCe := HC.out; refine bodyPost_ret (v := numOut ((neg, valC ip fr, E), 0)) (by simp [results, Tryz.results153, go_sem, numOut, hCe, hx2c0, hx2c1, hx2c2]) rfl ⟨by rw [hV2.out], ?_⟩
    (repeat' first | with_reducible refine Below.setCell ?_ ?_ _ | with_reducible refine Below.alloc ?_ ?_ _ | with_reducible refine Below.drew ?_ | with_reducible refine below_drewN ?_ _ | with_reducible assumption | with_reducible exact Below.refl _ _ | (simp only [World.size_alloc, World.size_setCell, World.size_drew]; first | done | omega) | omega)
   ·have hV2 := Lib.hid (show numVal neg ip fr (powP sg pw) = ((false, [], 0), 4) by rw [hV.out, if_neg hr])
    have hr' : numR neg C E = false := by simpa using hr
    clear hV hr; go_wp2; refine bodyPost_ret (v := numOut ((false, [], 0), 4)) (by simp [results, Tryz.results153, go_sem, numOut, strL, hx1c0, hx1c1, hx1c2]) rfl ⟨by rw [hV2.out], ?_⟩
    (repeat' first | with_reducible refine Below.setCell ?_ ?_ _ | with_reducible refine Below.alloc ?_ ?_ _ | with_reducible refine Below.drew ?_ | with_reducible refine below_drewN ?_ _ | with_reducible assumption | with_reducible exact Below.refl _ _ | (simp only [World.size_alloc, World.size_setCell, World.size_drew]; first | done | omega) | omega)
structure LexT (w : World) : Prop where
 utf : Tab w
 steps : TabS w
 dbl : ∀ j : Nat, j < 6 -> w.cell? ⟨0, j, none⟩ = some (.string (strL (dbls.getD j [])))
 mlen : ∃ m, w.cell? ⟨2, 0, none⟩ = some (.int .i64 m)
theorem LexT.below {w w' : World} (h : LexT w) (hb : Below w.heap.size w w') : LexT w' :=
 ⟨h.utf.below hb h.utf.pos, h.steps.below hb h.steps.pos, fun j hj => (hb.cell (p := ⟨0, j, none⟩) (World.block_lt_of_cell? w _ (h.dbl j hj))).trans (h.dbl j hj), by
  obtain ⟨m, hm⟩ := h.mlen
  exact ⟨m, (hb.cell (p := ⟨2, 0, none⟩) (World.block_lt_of_cell? w _ hm)).trans hm⟩⟩
theorem indexB (l : List UInt8) (c : UInt8) : decide (0 <= Lib.indexByte l c) = l.contains c := by
 induction l with
 | nil => rfl
 | cons b l ih =>
  unfold Lib.indexByte; rw [List.contains_cons]
  by_cases h : b = c
  ·subst h; simp
  ·have h1 : (b == c) = false := by simpa using h
   have h2 : (c == b) = false := by simpa using fun e : c = b => h e.symm
   rw [h1, h2, Bool.false_or, <- ih]; have := Lib.indexByte_ge l c; simp only [Bool.false_eq_true, if_false]
   by_cases h3 : Lib.indexByte l c = -1
   ·rw [if_pos (by simpa using h3), h3]
   ·rw [if_neg (by simpa using h3)]
    congr 1
    apply propext
    constructor <;> intro h <;> omega
theorem u8_back (c : UInt8) : ((c.toNat : Int)).toNat.toUInt8 = c := by simp
theorem has_any (s : ByteArray) (c : UInt8) (w : World) : Calls Tryz.prog 87 #[.string s, .int .u8 c.toNat] w fun e w' => (∃ i : Int, e = .returned (.int .i64 i) /\ decide (0 <= i) = s.data.toList.contains c) /\ w' = w :=
 (Tryz.strings_IndexByte s c.toNat w).mono fun e w' ⟨h1, h2⟩ => ⟨⟨_, h1, by rw [u8_back]; exact indexB _ _⟩, h2⟩
theorem sign_any (s : ByteArray) (w : World) (hT : LexT w) (h0 : 0 < s.size) (hs : s.size <= maxLen) :
  Calls Tryz.prog 130 #[.string s] w fun e w' => e = .returned (.int .i64 (sgN s.data.toList : Nat)) /\ w = w' := by
 unfold maxLen at hs; have t0 := hT.dbl 0 (by decide); have t1 := hT.dbl 1 (by decide); have t2 := hT.dbl 2 (by decide); have t3 := hT.dbl 3 (by decide); have t4 := hT.dbl 4 (by decide); have t5 := hT.dbl 5 (by decide); simp only [dbls, List.getD_cons_zero, List.getD_cons_succ, strL] at t0 t1 t2 t3 t4 t5; have hP := fun p W => Tryz.strings_HasPrefix s p W
 have hz : s.data.toList = s[0] :: s.data.toList.tail := by
  have := drop_at (s := s) (k := 0) h0; rw [List.drop_zero] at this; rw [this]; simp
 have hsg : sgN s.data.toList = if [[61, 61].isPrefixOf s.data.toList, [33, 61].isPrefixOf s.data.toList, [60, 61].isPrefixOf s.data.toList, [62, 61].isPrefixOf s.data.toList, [38, 38].isPrefixOf s.data.toList, [124, 124].isPrefixOf s.data.toList].any id then 2 else if sgls.contains s[0] then 1 else 0 := by
  unfold sgN; rw [hz]; rfl
 have hI := fun W => has_any ⟨#[61, 60, 62, 43, 45, 42, 47, 37, 33, 63, 58, 44, 46, 40, 41, 91, 93, 123, 125]⟩ s[0] W; have hI2 : (⟨#[61, 60, 62, 43, 45, 42, 47, 37, 33, 63, 58, 44, 46, 40, 41, 91, 93, 123, 125]⟩ : ByteArray).data.toList.contains s[0] = sgls.contains s[0] := rfl; rw [hI2] at hI; clear hI2; rw [hsg]; have e0 := hP ⟨#[61, 61]⟩; have e1 := hP ⟨#[33, 61]⟩; have e2 := hP ⟨#[60, 61]⟩; have e3 := hP ⟨#[62, 61]⟩; have e4 := hP ⟨#[38, 38]⟩; have e5 := hP ⟨#[124, 124]⟩; simp only [Lib.hasPrefix] at e0 e1 e2 e3 e4 e5; clear hsg hz hP; generalize [61, 61].isPrefixOf s.data.toList = b0 at *; generalize [33, 61].isPrefixOf s.data.toList = b1 at *; generalize [60, 61].isPrefixOf s.data.toList = b2 at *; generalize [62, 61].isPrefixOf s.data.toList = b3 at *; generalize [38, 38].isPrefixOf s.data.toList = b4 at *; generalize [124, 124].isPrefixOf s.data.toList = b5 at *; obtain ⟨B, hB⟩ : ∃ B, [b0, b1, b2, b3, b4, b5].any id = B := ⟨_, rfl⟩; rw [hB]; obtain ⟨R, hR⟩ : ∃ R, R = (if B = true then 2 else if sgls.contains s[0] = true then 1 else 0) := ⟨_, rfl⟩; rw [<- hR]; have HR := Lib.hid hR; clear hR; have HI := Lib.hid hI; have HE := Lib.hid (And.intro e0 (And.intro e1 (And.intro e2 (And.intro e3 (And.intro e4 e5))))); have HBB : Hid (([b0, b1, b2, b3, b4, b5].drop 0).any id = B) := Lib.hid hB; clear hI e0 e1 e2 e3 e4 e5 hB; go_enter Tryz.func130, Tryz.ntmps130; go_wp2_with fail; go_loop [4, 6] (fun _ i => ∃ k : Nat, k <= 6 /\ i = .int .i64 (k : Int) /\ ([b0, b1, b2, b3, b4, b5].drop k).any id = B) (fun _ i => 6 - (intOf i).toNat)
 case atStart => exact ⟨0, by omega, rfl, HBB.out⟩
 case round =>
  clear HBB t0 t1 t2 t3 t4 t5; obtain ⟨k, hk, rfl, hb⟩ := hrel; have hk7 : k = 0 \/ k = 1 \/ k = 2 \/ k = 3 \/ k = 4 \/ k = 5 \/ k = 6 := by omega
  rcases hk7 with rfl | rfl | rfl | rfl | rfl | rfl | rfl
  ·have e := HE.out.1
   have hx := run_index_cell (P := Tryz.prog) w 186 9 6 #[.string ⟨#[61, 61]⟩, .string ⟨#[33, 61]⟩, .string ⟨#[60, 61]⟩, .string ⟨#[62, 61]⟩, .string ⟨#[38, 38]⟩, .string ⟨#[124, 124]⟩] .i64 0 0 _ Tryz.underlying186 (by kernel_rfl) (by kernel_rfl) rfl (by decide) rfl
   cases b0 with
   | true =>
    have hB2 : Hid (B = true) := Lib.hid (by rw [<- hb]; simp); clear hb HE HI; go_wp2_with fail; refine (e _).mono ?_; rintro _ _ ⟨rfl, rfl⟩; go_wp2; go_ret; exact ⟨ret_num (by rw [HR.out, hB2.out]; rfl), rfl⟩
   | false =>
    have hB2 : Hid (([b1, b2, b3, b4, b5] : List Bool).any id = B) := Lib.hid (by rw [<- hb]; simp); clear hb HI; go_wp2_with fail; refine (e _).mono ?_; rintro _ _ ⟨rfl, rfl⟩; go_wp2; go_round
    case rel => exact ⟨1, by omega, by go_num, hB2.out⟩
    case measure => simp [intOf]
  ·have e := HE.out.2.1
   have hx := run_index_cell (P := Tryz.prog) w 186 9 6 #[.string ⟨#[61, 61]⟩, .string ⟨#[33, 61]⟩, .string ⟨#[60, 61]⟩, .string ⟨#[62, 61]⟩, .string ⟨#[38, 38]⟩, .string ⟨#[124, 124]⟩] .i64 1 1 _ Tryz.underlying186 (by kernel_rfl) (by kernel_rfl) rfl (by decide) rfl
   cases b1 with
   | true =>
    have hB2 : Hid (B = true) := Lib.hid (by rw [<- hb]; simp); clear hb HE HI; go_wp2_with fail; refine (e _).mono ?_; rintro _ _ ⟨rfl, rfl⟩; go_wp2; go_ret; exact ⟨ret_num (by rw [HR.out, hB2.out]; rfl), rfl⟩
   | false =>
    have hB2 : Hid (([b2, b3, b4, b5] : List Bool).any id = B) := Lib.hid (by rw [<- hb]; simp); clear hb HI; go_wp2_with fail; refine (e _).mono ?_; rintro _ _ ⟨rfl, rfl⟩; go_wp2; go_round
    case rel => exact ⟨2, by omega, by go_num, hB2.out⟩
    case measure => simp [intOf]
  ·have e := HE.out.2.2.1
   have hx := run_index_cell (P := Tryz.prog) w 186 9 6 #[.string ⟨#[61, 61]⟩, .string ⟨#[33, 61]⟩, .string ⟨#[60, 61]⟩, .string ⟨#[62, 61]⟩, .string ⟨#[38, 38]⟩, .string ⟨#[124, 124]⟩] .i64 2 2 _ Tryz.underlying186 (by kernel_rfl) (by kernel_rfl) rfl (by decide) rfl
   cases b2 with
   | true =>
    have hB2 : Hid (B = true) := Lib.hid (by rw [<- hb]; simp); clear hb HE HI; go_wp2_with fail; refine (e _).mono ?_; rintro _ _ ⟨rfl, rfl⟩; go_wp2; go_ret; exact ⟨ret_num (by rw [HR.out, hB2.out]; rfl), rfl⟩
   | false =>
    have hB2 : Hid (([b3, b4, b5] : List Bool).any id = B) := Lib.hid (by rw [<- hb]; simp); clear hb HI; go_wp2_with fail; refine (e _).mono ?_; rintro _ _ ⟨rfl, rfl⟩; go_wp2; go_round
    case rel => exact ⟨3, by omega, by go_num, hB2.out⟩
    case measure => simp [intOf]
  ·have e := HE.out.2.2.2.1
   have hx := run_index_cell (P := Tryz.prog) w 186 9 6 #[.string ⟨#[61, 61]⟩, .string ⟨#[33, 61]⟩, .string ⟨#[60, 61]⟩, .string ⟨#[62, 61]⟩, .string ⟨#[38, 38]⟩, .string ⟨#[124, 124]⟩] .i64 3 3 _ Tryz.underlying186 (by kernel_rfl) (by kernel_rfl) rfl (by decide) rfl
   cases b3 with
   | true =>
    have hB2 : Hid (B = true) := Lib.hid (by rw [<- hb]; simp); clear hb HE HI; go_wp2_with fail; refine (e _).mono ?_; rintro _ _ ⟨rfl, rfl⟩; go_wp2; go_ret; exact ⟨ret_num (by rw [HR.out, hB2.out]; rfl), rfl⟩
   | false =>
    have hB2 : Hid (([b4, b5] : List Bool).any id = B) := Lib.hid (by rw [<- hb]; simp); clear hb HI; go_wp2_with fail; refine (e _).mono ?_; rintro _ _ ⟨rfl, rfl⟩; go_wp2; go_round
    case rel => exact ⟨4, by omega, by go_num, hB2.out⟩
    case measure => simp [intOf]
  ·have e := HE.out.2.2.2.2.1
   have hx := run_index_cell (P := Tryz.prog) w 186 9 6 #[.string ⟨#[61, 61]⟩, .string ⟨#[33, 61]⟩, .string ⟨#[60, 61]⟩, .string ⟨#[62, 61]⟩, .string ⟨#[38, 38]⟩, .string ⟨#[124, 124]⟩] .i64 4 4 _ Tryz.underlying186 (by kernel_rfl) (by kernel_rfl) rfl (by decide) rfl
   cases b4 with
   | true =>
    have hB2 : Hid (B = true) := Lib.hid (by rw [<- hb]; simp); clear hb HE HI; go_wp2_with fail; refine (e _).mono ?_; rintro _ _ ⟨rfl, rfl⟩; go_wp2; go_ret; exact ⟨ret_num (by rw [HR.out, hB2.out]; rfl), rfl⟩
   | false =>
    have hB2 : Hid (([b5] : List Bool).any id = B) := Lib.hid (by rw [<- hb]; simp); clear hb HI; go_wp2_with fail; refine (e _).mono ?_; rintro _ _ ⟨rfl, rfl⟩; go_wp2; go_round
    case rel => exact ⟨5, by omega, by go_num, hB2.out⟩
    case measure => simp [intOf]
  ·have e := HE.out.2.2.2.2.2
   have hx := run_index_cell (P := Tryz.prog) w 186 9 6 #[.string ⟨#[61, 61]⟩, .string ⟨#[33, 61]⟩, .string ⟨#[60, 61]⟩, .string ⟨#[62, 61]⟩, .string ⟨#[38, 38]⟩, .string ⟨#[124, 124]⟩] .i64 5 5 _ Tryz.underlying186 (by kernel_rfl) (by kernel_rfl) rfl (by decide) rfl
   cases b5 with
   | true =>
    have hB2 : Hid (B = true) := Lib.hid (by rw [<- hb]; simp); clear hb HE HI; go_wp2_with fail; refine (e _).mono ?_; rintro _ _ ⟨rfl, rfl⟩; go_wp2; go_ret; exact ⟨ret_num (by rw [HR.out, hB2.out]; rfl), rfl⟩
   | false =>
    have hB2 : Hid (([] : List Bool).any id = B) := Lib.hid (by rw [<- hb]; simp); clear hb HI; go_wp2_with fail; refine (e _).mono ?_; rintro _ _ ⟨rfl, rfl⟩; go_wp2; go_round
    case rel => exact ⟨6, by omega, by go_num, hB2.out⟩
    case measure => simp [intOf]
  ·have hB2 : Hid (B = false) := Lib.hid hb.symm
   have hI := HI.out; clear hb HE HI; generalize sgls.contains s[0] = q at *; go_wp2_with fail; refine (hI _).mono ?_; rintro _ _ ⟨⟨i, rfl, hi⟩, rfl⟩
   cases q with
   | true =>
    go_wp2; go_ret; exact ⟨ret_num (by rw [HR.out, hB2.out]; rfl), rfl⟩
   | false =>
    go_wp2; go_ret; exact ⟨ret_num (by rw [HR.out, hB2.out]; rfl), rfl⟩
theorem ParseD_any (s : ByteArray) (w : World) (hT : TabS w) (hs : s.size <= 1048576) :
  Calls Tryz.prog 153 #[.string s] w fun e w' => e = .returned (numOut (decR s.data.toList)) /\ Below w.heap.size w w' := by
 by_cases h : scanN s.data.toList = s.data.toList.length /\ s.data.toList ≠ []
 ·obtain ⟨neg, ip, fr, mk, sg, pw, hn⟩ := parts_of_scan _ h.1 h.2
  rw [hn.decR]; exact Parse_good s neg ip fr mk sg pw w hT hs hn
 ·have h2 : s.data.toList = [] \/ scanN s.data.toList ≠ s.size := by
   rw [size_list]
   by_cases h3 : s.data.toList = []
   ·exact .inl h3
   ·exact .inr (fun e => h ⟨e, h3⟩)
  rw [show decR s.data.toList = ((false, [], 0), 3) by unfold decR; rw [if_neg h]]; exact Parse_bad s w hT hs h2
def lrV : LR -> Value
 | .tok k n => .tuple #[.int .i64 (k : Nat), .int .i64 (n : Nat), .int .i64 0, .int .i64 0]
 | .bad o e => .tuple #[.int .i64 0, .int .i64 0, .int .i64 (o : Nat), .int .i64 e]
theorem ext_take (s : ByteArray) (k : Nat) : (s.extract 0 k).data.toList = s.data.toList.take k := by rw [ext_list, List.drop_zero]
theorem ext_size {s : ByteArray} {k : Nat} (h : k <= s.size) : (s.extract 0 k).size = k := by rw [size_list, ext_take, List.length_take, <- size_list]; omega
theorem decimal_any (s : ByteArray) (w : World) (hT : LexT w) (hs : s.size <= 1048576) :
  Calls Tryz.prog 125 #[.string s] w fun e w' => e = .returned (lrV (num1 s.data.toList)) /\ Below w.heap.size w w' := by
 have hS := Scan_any s w hT.steps (by unfold maxLen; omega); have hle := scanN_le s.data.toList; rw [<- size_list] at hle; have hP := fun W h => ParseD_any (s.extract 0 (scanN s.data.toList)) W h (by rw [ext_size hle]; omega); rw [ext_take] at hP; unfold num1 decE; generalize scanN s.data.toList = k at *; obtain ⟨⟨⟨b, d, x⟩, z⟩, hR⟩ : ∃ r, decR (s.data.toList.take k) = r := ⟨_, rfl⟩; rw [hR] at hP ⊢; simp only [numOut] at hP; clear hR; generalize s.data.toList.take k = tk at *
 by_cases hz : z = 0
 ·subst hz
  rw [if_pos rfl]; simp only [lrV]; go_enter Tryz.func125, Tryz.ntmps125; go_wp2_with fail; refine hS.mono ?_; rintro _ _ ⟨rfl, n, rfl⟩; have hT2 : TabS (w.drewN n) := hT.steps; go_wp2_with fail; refine (hP _ hT2).mono ?_; rintro _ w2 ⟨rfl, hb2⟩; go_wp2; refine bodyPost_ret (v := .tuple #[.int .i64 2, .int .i64 (k : Nat), .int .i64 0, .int .i64 0]) (by simp [results, Tryz.results125, go_sem]) rfl ⟨rfl, ((below_draws w.heap.size w n).trans hb2).alloc hb2.size _⟩
 ·have hz2 : (z != 0) = true := by simpa using hz
  rw [if_neg hz]; simp only [lrV]; clear hz; go_enter Tryz.func125, Tryz.ntmps125; go_wp2_with fail; refine hS.mono ?_; rintro _ _ ⟨rfl, n, rfl⟩; have hT2 : TabS (w.drewN n) := hT.steps; go_wp2_with fail; refine (hP _ hT2).mono ?_; rintro _ w2 ⟨rfl, hb2⟩; go_wp2; refine bodyPost_ret (v := .tuple #[.int .i64 0, .int .i64 0, .int .i64 0, .int .i64 z]) (by simp [results, Tryz.results125, go_sem]) rfl ⟨rfl, ((below_draws w.heap.size w n).trans hb2).alloc hb2.size _⟩
theorem lineN_index : ∀ l : Bs, (Lib.indexByte l 10 = -1 /\ lineN l = l.length) \/ Lib.indexByte l 10 = (lineN l : Nat)
 | [] => .inl ⟨rfl, rfl⟩
 | c :: l => by
  unfold Lib.indexByte lineN
  by_cases h : c = 10
  ·subst h; right; rfl
  ·rw [if_neg (by simpa using h), if_neg h]
   rcases lineN_index l with ⟨h1, h2⟩ | h1
   ·left; rw [h1]; exact ⟨rfl, by rw [h2]; simp⟩
   ·right; rw [h1, if_neg (by simp)]; rfl
theorem remT_none {l : Bs} {k : Nat} (h : wth l = none) : remT l k = .tok k l.length := by unfold remT; rw [h]
theorem remT_some {l : Bs} {k : Nat} {x : Nat × Int} (h : wth l = some x) : remT l k = .bad x.1 x.2 := by unfold remT; rw [h]
theorem wth_err {l : Bs} {x : Nat × Int} (h : wth l = some x) : (x.2 != 0) = true := by
 unfold wth at h; split at h
 ·cases h; rfl
 ·split at h
  ·cases h; rfl
  ·cases h
theorem blanks_ascii : ∀ (j : Nat) b, (⟨#[32, 9, 13]⟩ : ByteArray).data.toList[j]? = some b -> b.toNat < 128 := by
 intro j b h; have hm : b ∈ ([32, 9, 13] : List UInt8) := List.mem_of_getElem? h; simp at hm
 rcases hm with rfl | rfl | rfl <;> decide
theorem remark_any (s : ByteArray) (w : World) (hT : LexT w) (hs : s.size <= 1048576) :
  Calls Tryz.prog 128 #[.string s] w fun e w' => e = .returned (lrV (remT (remS s.data.toList) 6)) /\ Below w.heap.size w w' := by
 have hI := fun W => Tryz.strings_IndexByte s 10 W; rw [show ((10 : Int).toNat.toUInt8) = 10 from rfl] at hI; have hll := lineN_le s.data.toList; rw [<- size_list] at hll; rcases lineN_index s.data.toList with ⟨h1, h2⟩ | h1
 ·rw [h1] at hI
  have hTr := fun W => Any.strings_TrimRight_laid Tryz.lays162 (by kernel_rfl) s ⟨#[32, 9, 13]⟩ W (by omega) (by decide) blanks_ascii
  have he : Lib.trimRightS s.data.toList (⟨#[32, 9, 13]⟩ : ByteArray).data.toList = remS s.data.toList := by
   unfold remS; rw [h2, List.take_length]; rfl
  rw [he] at hTr; clear he h1 h2 hll; have hW := within_any (strL (remS s.data.toList)); have hln := remS_len s.data.toList; rw [strL_list] at hW; have hsz : (strL (remS s.data.toList)).size = (remS s.data.toList).length := size_strL _; rw [<- size_list] at hln; change ∀ W, Calls Tryz.prog 159 #[.string s, .string ⟨#[32, 9, 13]⟩] W fun e w' => e = .returned (.string (strL (remS s.data.toList))) /\ Below W.heap.size W w' at hTr; generalize hrs : remS s.data.toList = rs at *; generalize hS : strL rs = S at *; clear hrs hS; have hW2 := fun w h => hW w (by omega) h; clear hW
  cases hw : wth rs with
  | none =>
   rw [remT_none hw]; rw [hw] at hW2; simp only [lrV, wthV] at hW2 ⊢; have HSZ := Lib.hid hsz; clear hsz; go_enter Tryz.func128, Tryz.ntmps128; go_wp2_with fail; refine (hI _).mono ?_; rintro _ _ ⟨rfl, rfl⟩; go_wp2_with fail; refine (hTr _).mono ?_; rintro _ w1 ⟨rfl, hb1⟩; go_wp2_with fail; refine (hW2 _ (hT.below hb1).utf).mono ?_; rintro _ w2 ⟨rfl, hb2⟩; go_wp2; refine bodyPost_ret (v := .tuple #[.int .i64 6, .int .i64 (rs.length : Nat), .int .i64 0, .int .i64 0]) (by simp [results, Tryz.results128, go_sem, HSZ.out]) rfl ⟨rfl, hb1.trans (hb2.mono hb1.size)⟩
  | some x =>
   rw [remT_some hw]; rw [hw] at hW2; have hne := wth_err hw; obtain ⟨xa, xe⟩ := x; simp only [lrV, wthV] at hW2 hne ⊢; go_enter Tryz.func128, Tryz.ntmps128; go_wp2_with fail; refine (hI _).mono ?_; rintro _ _ ⟨rfl, rfl⟩; go_wp2_with fail; refine (hTr _).mono ?_; rintro _ w1 ⟨rfl, hb1⟩; go_wp2_with fail; refine (hW2 _ (hT.below hb1).utf).mono ?_; rintro _ w2 ⟨rfl, hb2⟩; go_wp2; refine bodyPost_ret (v := .tuple #[.int .i64 0, .int .i64 0, .int .i64 (xa : Nat), .int .i64 xe]) (by simp [results, Tryz.results128, go_sem]) rfl ⟨rfl, hb1.trans (hb2.mono hb1.size)⟩
 ·rw [h1] at hI
  have hTr := fun W => Any.strings_TrimRight_laid Tryz.lays162 (by kernel_rfl) (s.extract 0 (lineN s.data.toList)) ⟨#[32, 9, 13]⟩ W (by rw [ext_size hll]; omega) (by decide) blanks_ascii
  have he : Lib.trimRightS (s.extract 0 (lineN s.data.toList)).data.toList (⟨#[32, 9, 13]⟩ : ByteArray).data.toList = remS s.data.toList := by
   unfold remS; rw [ext_take]; rfl
  rw [he] at hTr; clear he h1; generalize lineN s.data.toList = ln at *; have hW := within_any (strL (remS s.data.toList)); have hln := remS_len s.data.toList; rw [strL_list] at hW; have hsz : (strL (remS s.data.toList)).size = (remS s.data.toList).length := size_strL _; rw [<- size_list] at hln; change ∀ W, Calls Tryz.prog 159 #[.string (s.extract 0 ln), .string ⟨#[32, 9, 13]⟩] W fun e w' => e = .returned (.string (strL (remS s.data.toList))) /\ Below W.heap.size W w' at hTr; generalize hrs : remS s.data.toList = rs at *; generalize hS : strL rs = S at *; clear hrs hS; have hW2 := fun w h => hW w (by omega) h; clear hW
  cases hw : wth rs with
  | none =>
   rw [remT_none hw]; rw [hw] at hW2; simp only [lrV, wthV] at hW2 ⊢; have HSZ := Lib.hid hsz; clear hsz; go_enter Tryz.func128, Tryz.ntmps128; go_wp2_with fail; refine (hI _).mono ?_; rintro _ _ ⟨rfl, rfl⟩; go_wp2_with fail; refine (hTr _).mono ?_; rintro _ w1 ⟨rfl, hb1⟩; go_wp2_with fail; refine (hW2 _ (hT.below hb1).utf).mono ?_; rintro _ w2 ⟨rfl, hb2⟩; go_wp2; refine bodyPost_ret (v := .tuple #[.int .i64 6, .int .i64 (rs.length : Nat), .int .i64 0, .int .i64 0]) (by simp [results, Tryz.results128, go_sem, HSZ.out]) rfl ⟨rfl, hb1.trans (hb2.mono hb1.size)⟩
  | some x =>
   rw [remT_some hw]; rw [hw] at hW2; have hne := wth_err hw; obtain ⟨xa, xe⟩ := x; simp only [lrV, wthV] at hW2 hne ⊢; go_enter Tryz.func128, Tryz.ntmps128; go_wp2_with fail; refine (hI _).mono ?_; rintro _ _ ⟨rfl, rfl⟩; go_wp2_with fail; refine (hTr _).mono ?_; rintro _ w1 ⟨rfl, hb1⟩; go_wp2_with fail; refine (hW2 _ (hT.below hb1).utf).mono ?_; rintro _ w2 ⟨rfl, hb2⟩; go_wp2; refine bodyPost_ret (v := .tuple #[.int .i64 0, .int .i64 0, .int .i64 (xa : Nat), .int .i64 xe]) (by simp [results, Tryz.results128, go_sem]) rfl ⟨rfl, hb1.trans (hb2.mono hb1.size)⟩
theorem endN_index : ∀ l : Bs, (Lib.index l [42, 47] = -1 /\ endN l = none) \/ ∃ n : Nat, Lib.index l [42, 47] = n /\ endN l = some n
 | [] => .inl ⟨rfl, rfl⟩
 | c :: l => by
  unfold Lib.index endN
  have hp : ([42, 47] : Bs).isPrefixOf (c :: l) = decide (c = 42 /\ l.head? = some 47) := by
   cases l with
   | nil => simp [List.isPrefixOf]
   | cons d l =>
    simp only [List.isPrefixOf, List.head?_cons, Option.some.injEq, Bool.and_true]
    by_cases h1 : c = 42
    ·by_cases h2 : d = 47
     ·subst h1 h2; rfl
     ·subst h1
      have : (47 == d) = false := by simpa using fun e : (47 : UInt8) = d => h2 e.symm
      simp [this, h2]
    ·have : (42 == c) = false := by simpa using fun e : (42 : UInt8) = c => h1 e.symm
     simp [this, h1]
  rw [hp]
  by_cases h : c = 42 /\ l.head? = some 47
  ·rw [if_pos (by simpa using h), if_pos h]
   exact .inr ⟨0, rfl, rfl⟩
  ·rw [if_neg (by simpa using h), if_neg h]
   rcases endN_index l with ⟨h1, h2⟩ | ⟨n, h1, h2⟩
   ·left; rw [h1, h2]; exact ⟨by simp, rfl⟩
   ·right; rw [h1, h2]; exact ⟨n + 1, by rw [if_neg (by simp)]; rfl, rfl⟩
theorem ext_drop (s : ByteArray) (k : Nat) : (s.extract k s.size).data.toList = s.data.toList.drop k := by rw [ext_list, size_list, List.take_length]
theorem aside_any (s : ByteArray) (w : World) (hT : LexT w) (hs : s.size <= 1048576) (h2 : 2 <= s.size) :
  Calls Tryz.prog 129 #[.string s] w fun e w' => e = .returned (lrV (aside1 s.data.toList)) /\ Below w.heap.size w w' := by
 obtain ⟨m, hm⟩ := hT.mlen; have hI := Tryz.strings_Index (s.extract 2 s.size) ⟨#[42, 47]⟩ m w (by rw [ByteArray.size_extract]; omega) hm; rw [ext_drop] at hI; unfold aside1; rcases endN_index (s.data.toList.drop 2) with ⟨h3, h4⟩ | ⟨n, h3, h4⟩
 ·rw [h4]
  simp only [lrV]; change Calls _ _ _ _ fun e w' => e = .returned (.int .i64 (Lib.index (s.data.toList.drop 2) [42, 47])) /\ w' = w at hI; rw [h3] at hI; clear h3 h4 hm; go_enter Tryz.func129, Tryz.ntmps129; go_wp2_with fail; refine hI.mono ?_; rintro _ _ ⟨rfl, rfl⟩; go_wp2; refine bodyPost_ret (v := .tuple #[.int .i64 0, .int .i64 0, .int .i64 0, .int .i64 2]) (by simp [results, Tryz.results129, go_sem]) rfl ⟨rfl, Below.refl _ _⟩
 ·have hle := endN_le _ _ h4
  rw [List.length_drop, <- size_list] at hle; rw [h4]; simp only; change Calls _ _ _ _ fun e w' => e = .returned (.int .i64 (Lib.index (s.data.toList.drop 2) [42, 47])) /\ w' = w at hI; rw [h3] at hI; have hB := fun W => has_any (s.extract 0 (n + 2)) 10 W; rw [ext_take] at hB; have hW := fun W h => within_any (s.extract 0 (n + 4)) W (by rw [ext_size (by omega)]; omega) h; rw [ext_take] at hW; have hsz : (s.extract 0 (n + 4)).size = n + 4 := ext_size (by omega); have hln : (s.data.toList.take (n + 4)).length = n + 4 := by rw [List.length_take, <- size_list]; omega
  have e2 : s.extract 0 (n + 2) = s.extract 0 (n + 2) := rfl; clear h3 h4 hm
  cases hc : (s.data.toList.take (n + 2)).contains 10 with
  | true =>
   rw [hc] at hB; rw [if_pos rfl]; simp only [lrV]; clear hc hW hsz hln; go_enter Tryz.func129, Tryz.ntmps129; go_wp2_with fail; refine hI.mono ?_; rintro _ _ ⟨rfl, rfl⟩; go_wp2_with fail; refine (hB _).mono ?_; rintro _ _ ⟨⟨i, rfl, hi⟩, rfl⟩; go_wp2; refine bodyPost_ret (v := .tuple #[.int .i64 0, .int .i64 0, .int .i64 0, .int .i64 2]) (by simp [results, Tryz.results129, go_sem]) rfl ⟨rfl, Below.refl _ _⟩
  | false =>
   rw [hc] at hB; rw [if_neg (by simp)]; clear hc; generalize s.data.toList.take (n + 4) = rs at *
   cases hw : wth rs with
   | none =>
    rw [remT_none hw, hln]; rw [hw] at hW; simp only [lrV, wthV] at hW ⊢; clear hw hln; go_enter Tryz.func129, Tryz.ntmps129; go_wp2_with fail; refine hI.mono ?_; rintro _ _ ⟨rfl, rfl⟩; go_wp2_with fail; refine (hB _).mono ?_; rintro _ _ ⟨⟨i, rfl, hi⟩, rfl⟩; go_wp2_with fail; refine (hW _ hT.utf).mono ?_; rintro _ w2 ⟨rfl, hb2⟩; go_wp2; refine bodyPost_ret (v := .tuple #[.int .i64 7, .int .i64 ((n + 4 : Nat) : Int), .int .i64 0, .int .i64 0]) (by simp [results, Tryz.results129, go_sem, hsz]) rfl ⟨rfl, hb2⟩
   | some x =>
    rw [remT_some hw]; rw [hw] at hW; have hne := wth_err hw; obtain ⟨xa, xe⟩ := x; simp only [lrV, wthV] at hW hne ⊢; clear hw hln; go_enter Tryz.func129, Tryz.ntmps129; go_wp2_with fail; refine hI.mono ?_; rintro _ _ ⟨rfl, rfl⟩; go_wp2_with fail; refine (hB _).mono ?_; rintro _ _ ⟨⟨i, rfl, hi⟩, rfl⟩; go_wp2_with fail; refine (hW _ hT.utf).mono ?_; rintro _ w2 ⟨rfl, hb2⟩; go_wp2; refine bodyPost_ret (v := .tuple #[.int .i64 0, .int .i64 0, .int .i64 (xa : Nat), .int .i64 xe]) (by simp [results, Tryz.results129, go_sem]) rfl ⟨rfl, hb2⟩
theorem pfx2 (a b c : UInt8) (l : Bs) : ([a, b] : Bs).isPrefixOf (c :: l) = decide (c = a /\ l.head? = some b) := by
 cases l with
 | nil => simp [List.isPrefixOf]
 | cons d l =>
  simp only [List.isPrefixOf, List.head?_cons, Option.some.injEq, Bool.and_true]
  by_cases h1 : c = a
  ·by_cases h2 : d = b
   ·subst h1 h2; simp
   ·subst h1
    have : (b == d) = false := by simpa using fun e : b = d => h2 e.symm
    simp [this, h2]
  ·have : (a == c) = false := by simpa using fun e : a = c => h1 e.symm
   simp [this, h1]
theorem lrV_four (r : LR) : ∃ a b c d : Int, lrV r = .tuple #[.int .i64 a, .int .i64 b, .int .i64 c, .int .i64 d] := by
 cases r <;> exact ⟨_, _, _, _, rfl⟩
theorem next_any (s : ByteArray) (w : World) (hT : LexT w) (hs : s.size <= 1048576) (h0 : 0 < s.size) :
  Calls Tryz.prog 88 #[.string s] w fun e w' => e = .returned (lrV (one1 s.data.toList)) /\ Below w.heap.size w w' := by
 obtain ⟨c, hc⟩ : ∃ c, s[0]'h0 = c := ⟨_, rfl⟩; have hcn : (s[0]'h0).toNat = c.toNat := by rw [hc]
 obtain ⟨r, hr⟩ : ∃ r, s.data.toList = c :: r := ⟨_, by have := drop_at (s := s) (k := 0) h0; rw [List.drop_zero, hc] at this; exact this⟩; have hLe := letter_any c; have hDi := digit_any c; have hId := fun W => ident_any s W (by unfold maxLen; omega) h0; rw [hr] at hId; simp only [List.drop_succ_cons, List.drop_zero] at hId; have hDe := fun W h => decimal_any s W h hs; have hQ := fun W h => qScan_any s W hs h; have hR := fun W h => remark_any s W h hs; have hP1 := fun W => Tryz.strings_HasPrefix s ⟨#[47, 47]⟩ W; have hP2 := fun W => Tryz.strings_HasPrefix s ⟨#[47, 42]⟩ W; have hA := fun W h h2 => aside_any s W h hs h2; have hSg := fun W h => sign_any s W h h0 (by unfold maxLen; omega); have e1 : Lib.hasPrefix s.data.toList (⟨#[47, 47]⟩ : ByteArray).data.toList = decide (c = 47 /\ r.head? = some 47) := by rw [hr]; exact pfx2 47 47 c r
 have e2 : Lib.hasPrefix s.data.toList (⟨#[47, 42]⟩ : ByteArray).data.toList = decide (c = 47 /\ r.head? = some 42) := by rw [hr]; exact pfx2 47 42 c r
 rw [e1] at hP1; rw [e2] at hP2
 have h2 : r.head? = some 42 -> 2 <= s.size := by
  intro h; rw [size_list, hr]
  cases r with
  | nil => cases h
  | cons d r => simp
 rw [hr] at hDe hR hA hSg ⊢; have hbs : bs s = nb (c :: r) := by rw [<- hr]; rfl
 rw [hbs] at hQ; clear e1 e2 hr hc hbs; rw [one1]
 cases hl : letB c with
 | true =>
  rw [hl] at hLe; simp only [if_true, lrV]; clear hDi hDe hQ hR hP1 hP2 hA hSg hl h2; generalize idN r = q at *; go_enter Tryz.func88, Tryz.ntmps88; go_wp2_with fail; refine (hLe _).mono ?_; rintro _ _ ⟨rfl, rfl⟩; go_wp2_with fail; refine (hId _).mono ?_; rintro _ _ ⟨rfl, rfl⟩; go_wp2; refine bodyPost_ret (v := .tuple #[.int .i64 1, .int .i64 ((1 + q : Nat) : Int), .int .i64 0, .int .i64 0]) (by simp [results, Tryz.results88, go_sem]) rfl ⟨rfl, Below.refl _ _⟩
 | false =>
 rw [hl] at hLe
 cases hd : dg c with
 | true =>
  rw [hd] at hDi; simp only [if_true, Bool.false_eq_true, if_false]; clear hQ hR hP1 hP2 hA hSg hl h2 hId hd; obtain ⟨x1, x2, x3, x4, hx⟩ := lrV_four (num1 (c :: r)); rw [hx] at hDe ⊢; clear hx; go_enter Tryz.func88, Tryz.ntmps88; go_wp2_with fail; refine (hLe _).mono ?_; rintro _ _ ⟨rfl, rfl⟩; go_wp2_with fail; refine (hDi _).mono ?_; rintro _ _ ⟨rfl, rfl⟩; go_wp2_with fail; refine (hDe _ hT).mono ?_; rintro _ w1 ⟨rfl, hb1⟩; go_wp2; refine bodyPost_ret (v := .tuple #[.int .i64 x1, .int .i64 x2, .int .i64 x3, .int .i64 x4]) (by simp [results, Tryz.results88, go_sem]) rfl ⟨rfl, hb1⟩
 | false =>
 rw [hd] at hDi; simp only [Bool.false_eq_true, if_false]
 by_cases h34 : c = 34
 ·have d34 : ((c.toNat : Int) == 34) = true := by subst h34; rfl
  rw [if_pos h34]; unfold quo1; clear hR hP1 hP2 hA hSg hl h2 hId hd hDe h34; generalize scanQ (nb (c :: r)) = q at *; obtain ⟨qs, qn, qe⟩ := q; simp only [scanV] at hQ ⊢
  by_cases he : qe = 0
  ·subst he
   rw [if_pos rfl]; simp only [lrV]; go_enter Tryz.func88, Tryz.ntmps88; go_wp2_with fail; refine (hLe _).mono ?_; rintro _ _ ⟨rfl, rfl⟩; go_wp2_with fail; refine (hDi _).mono ?_; rintro _ _ ⟨rfl, rfl⟩; go_wp2_with fail; refine (hQ _ hT.utf).mono ?_; rintro _ w1 ⟨rfl, hb1⟩; go_wp2; refine bodyPost_ret (v := .tuple #[.int .i64 3, .int .i64 (qn : Nat), .int .i64 0, .int .i64 0]) (by simp [results, Tryz.results88, go_sem]) rfl ⟨rfl, hb1⟩
  ·have he2 : ((qe : Int) != 0) = true := by rw [bne_iff_ne]; omega
   rw [if_neg (by omega)]; simp only [lrV]; clear he; go_enter Tryz.func88, Tryz.ntmps88; go_wp2_with fail; refine (hLe _).mono ?_; rintro _ _ ⟨rfl, rfl⟩; go_wp2_with fail; refine (hDi _).mono ?_; rintro _ _ ⟨rfl, rfl⟩; go_wp2_with fail; refine (hQ _ hT.utf).mono ?_; rintro _ w1 ⟨rfl, hb1⟩; go_wp2; refine bodyPost_ret (v := .tuple #[.int .i64 0, .int .i64 0, .int .i64 0, .int .i64 (qe : Nat)]) (by simp [results, Tryz.results88, go_sem]) rfl ⟨rfl, hb1⟩
 rw [if_neg h34]; have d34 := u8_nb h34 (m := 34) rfl; clear h34 hQ hDe hId
 by_cases h10 : c = 10
 ·have d10 : ((c.toNat : Int) == 10) = true := by subst h10; rfl
  rw [if_pos h10]; clear hR hP1 hP2 hA hSg hl h2 hd h10; simp only [lrV]; go_enter Tryz.func88, Tryz.ntmps88; go_wp2_with fail; refine (hLe _).mono ?_; rintro _ _ ⟨rfl, rfl⟩; go_wp2_with fail; refine (hDi _).mono ?_; rintro _ _ ⟨rfl, rfl⟩; go_wp2; refine bodyPost_ret (v := .tuple #[.int .i64 5, .int .i64 1, .int .i64 0, .int .i64 0]) (by simp [results, Tryz.results88, go_sem]) rfl ⟨rfl, Below.refl _ _⟩
 rw [if_neg h10]; have d10 := u8_nb h10 (m := 10) rfl; clear h10
 by_cases h35 : c = 35
 ·have d35 : ((c.toNat : Int) == 35) = true := by subst h35; rfl
  rw [if_pos (.inl h35)]; clear hP1 hP2 hA hSg hl h2 hd h35; obtain ⟨x1, x2, x3, x4, hx⟩ := lrV_four (remT (remS (c :: r)) 6); rw [hx] at hR ⊢; clear hx; go_enter Tryz.func88, Tryz.ntmps88; go_wp2_with fail; refine (hLe _).mono ?_; rintro _ _ ⟨rfl, rfl⟩; go_wp2_with fail; refine (hDi _).mono ?_; rintro _ _ ⟨rfl, rfl⟩; go_wp2_with fail; refine (hR _ hT).mono ?_; rintro _ w1 ⟨rfl, hb1⟩; go_wp2; refine bodyPost_ret (v := .tuple #[.int .i64 x1, .int .i64 x2, .int .i64 x3, .int .i64 x4]) (by simp [results, Tryz.results88, go_sem]) rfl ⟨rfl, hb1⟩
 have d35 := u8_nb h35 (m := 35) rfl
 by_cases h47 : c = 47 /\ r.head? = some 47
 ·rw [if_pos (.inr h47)]
  rw [decide_eq_true h47] at hP1; clear hP2 hA hSg hl h2 hd h35 h47; obtain ⟨x1, x2, x3, x4, hx⟩ := lrV_four (remT (remS (c :: r)) 6); rw [hx] at hR ⊢; clear hx; go_enter Tryz.func88, Tryz.ntmps88; go_wp2_with fail; refine (hLe _).mono ?_; rintro _ _ ⟨rfl, rfl⟩; go_wp2_with fail; refine (hDi _).mono ?_; rintro _ _ ⟨rfl, rfl⟩; go_wp2_with fail; refine (hP1 _).mono ?_; rintro _ _ ⟨rfl, rfl⟩; go_wp2_with fail; refine (hR _ hT).mono ?_; rintro _ w1 ⟨rfl, hb1⟩; go_wp2; refine bodyPost_ret (v := .tuple #[.int .i64 x1, .int .i64 x2, .int .i64 x3, .int .i64 x4]) (by simp [results, Tryz.results88, go_sem]) rfl ⟨rfl, hb1⟩
 rw [if_neg (by rintro (h | h); (· exact h35 h); (· exact h47 h))]; rw [decide_eq_false h47] at hP1; clear h35 h47 hR
 by_cases h42 : c = 47 /\ r.head? = some 42
 ·rw [if_pos h42]
  rw [decide_eq_true h42] at hP2; have hA2 := fun W h => hA W h (h2 h42.2); clear hA hSg hl h2 hd h42; obtain ⟨x1, x2, x3, x4, hx⟩ := lrV_four (aside1 (c :: r)); rw [hx] at hA2 ⊢; clear hx; go_enter Tryz.func88, Tryz.ntmps88; go_wp2_with fail; refine (hLe _).mono ?_; rintro _ _ ⟨rfl, rfl⟩; go_wp2_with fail; refine (hDi _).mono ?_; rintro _ _ ⟨rfl, rfl⟩; go_wp2_with fail; refine (hP1 _).mono ?_; rintro _ _ ⟨rfl, rfl⟩; go_wp2_with fail; refine (hP2 _).mono ?_; rintro _ _ ⟨rfl, rfl⟩; go_wp2_with fail; refine (hA2 _ hT).mono ?_; rintro _ w1 ⟨rfl, hb1⟩; go_wp2; refine bodyPost_ret (v := .tuple #[.int .i64 x1, .int .i64 x2, .int .i64 x3, .int .i64 x4]) (by simp [results, Tryz.results88, go_sem]) rfl ⟨rfl, hb1⟩
 rw [if_neg h42]; rw [decide_eq_false h42] at hP2; clear h42 hA h2 hl hd; generalize sgN (c :: r) = n at *
 by_cases hn : n = 0
 ·subst hn
  rw [if_pos rfl]; simp only [lrV]; go_enter Tryz.func88, Tryz.ntmps88; go_wp2_with fail; refine (hLe _).mono ?_; rintro _ _ ⟨rfl, rfl⟩; go_wp2_with fail; refine (hDi _).mono ?_; rintro _ _ ⟨rfl, rfl⟩; go_wp2_with fail; refine (hP1 _).mono ?_; rintro _ _ ⟨rfl, rfl⟩; go_wp2_with fail; refine (hP2 _).mono ?_; rintro _ _ ⟨rfl, rfl⟩; go_wp2_with fail; refine (hSg _ hT).mono ?_; rintro _ _ ⟨rfl, rfl⟩; go_wp2; refine bodyPost_ret (v := .tuple #[.int .i64 0, .int .i64 0, .int .i64 0, .int .i64 3]) (by simp [results, Tryz.results88, go_sem]) rfl ⟨rfl, Below.refl _ _⟩
 ·rw [if_neg hn]
  have hn2 : 0 < n := by omega
  simp only [lrV]; clear hn; go_enter Tryz.func88, Tryz.ntmps88; go_wp2_with fail; refine (hLe _).mono ?_; rintro _ _ ⟨rfl, rfl⟩; go_wp2_with fail; refine (hDi _).mono ?_; rintro _ _ ⟨rfl, rfl⟩; go_wp2_with fail; refine (hP1 _).mono ?_; rintro _ _ ⟨rfl, rfl⟩; go_wp2_with fail; refine (hP2 _).mono ?_; rintro _ _ ⟨rfl, rfl⟩; go_wp2_with fail; refine (hSg _ hT).mono ?_; rintro _ _ ⟨rfl, rfl⟩; go_wp2; refine bodyPost_ret (v := .tuple #[.int .i64 4, .int .i64 (n : Nat), .int .i64 0, .int .i64 0]) (by simp [results, Tryz.results88, go_sem]) rfl ⟨rfl, Below.refl _ _⟩
theorem one1_err {l : Bs} {o : Nat} {e : Int} (h : one1 l = .bad o e) : e ≠ 0 := by
 have hT : ∀ (q : Bs) k, remT q k = .bad o e -> e ≠ 0 := by
  intro q k hq
  cases hw : wth q with
  | none => rw [remT_none hw] at hq; cases hq
  | some x =>
   rw [remT_some hw] at hq; cases hq
   simpa using wth_err hw
 cases l with
 | nil => cases h; decide
 | cons c r =>
  rw [one1] at h; split at h
  ·cases h
  split at h
  ·unfold num1 at h
   split at h
   ·cases h
   ·next hn => cases h; exact hn
  split at h
  ·unfold quo1 at h
   split at h
   ·cases h
   ·next hn => cases h; omega
  split at h
  ·cases h
  split at h
  ·exact hT _ _ h
  split at h
  ·unfold aside1 at h
   split at h
   ·cases h; decide
   ·split at h
    ·cases h; decide
    ·exact hT _ _ h
  split at h
  ·cases h; decide
  ·cases h
theorem scan_pos : ∀ (m : Nat) (l : List Nat) (a : Nat), l.length <= m -> (∀ x ∈ l, x < 256) -> ∀ x ∈ (scan l a).1, x.1 < a + l.length
 | m, l, a, hm, hl, x, hx => by
  by_cases h0 : l = []
  ·subst h0; simp [scan_nil] at hx
  have hp := List.length_pos_iff.2 h0
  by_cases hn : (oneN l).2 = 0
  ·rw [scan_bad h0 hn] at hx; simp at hx
  ·have hle := (oneN_le l hl).1
   cases m with
   | zero => omega
   | succ m =>
    rw [scan_step h0, if_neg hn] at hx; rcases List.mem_cons.1 hx with rfl | hx
    ·simp only; omega
    ·have := scan_pos m (l.drop (oneN l).2) (a + (oneN l).2) (by simp; omega) (fun x hx => hl x (List.mem_of_mem_drop hx)) x hx
     simp at this; omega
theorem wth_pos {l : Bs} {x : Nat × Int} (h : wth l = some x) : x.1 < l.length := by
 unfold wth at h; split at h
 ·next y hy =>
  cases h
  have := scan_pos _ (nb l) 0 (Nat.le_refl _) (nb_byt l) y (List.mem_of_find?_eq_some hy); rw [nb_len] at this; simpa using this
 ·split at h
  ·next a ha =>
   cases h
   have := scan_lt _ (nb l) 0 a (Nat.le_refl _) (nb_byt l) ha; rw [nb_len] at this; simpa using this
  ·cases h
theorem one1_off {l : Bs} {o : Nat} {e : Int} (h : one1 l = .bad o e) : o <= l.length := by
 have hT : ∀ (q : Bs) k, q.length <= l.length -> remT q k = .bad o e -> o <= l.length := by
  intro q k hl hq
  cases hw : wth q with
  | none => rw [remT_none hw] at hq; cases hq
  | some x =>
   rw [remT_some hw] at hq; cases hq
   have := wth_pos hw; omega
 cases l with
 | nil => cases h; exact Nat.zero_le _
 | cons c r =>
  rw [one1] at h; split at h
  ·cases h
  split at h
  ·unfold num1 at h
   split at h
   ·cases h
   ·cases h; exact Nat.zero_le _
  split at h
  ·unfold quo1 at h
   split at h
   ·cases h
   ·cases h; exact Nat.zero_le _
  split at h
  ·cases h
  split at h
  ·exact hT _ _ (remS_len _) h
  split at h
  ·unfold aside1 at h
   split at h
   ·cases h; exact Nat.zero_le _
   ·split at h
    ·cases h; exact Nat.zero_le _
    ·exact hT _ _ (by rw [List.length_take]; omega) h
  split at h
  ·cases h; exact Nat.zero_le _
  ·cases h
theorem keep_any (t : Tok) (g : Nat) (v : Value) (l : List Tok) (W : World) (hc : Cells W g #[v] 22) (hown : OwnT (g + 1) W v l) (hl : l.length <= 1048576) :
  Calls Tryz.prog 48 #[tokV t, .pointer (some ⟨g, 0, none⟩)] W fun e w' => e = .returned (.bool true) /\ ∃ v', Cells w' g #[v'] 22 /\ OwnT (g + 1) w' v' (l ++ [t]) /\ Below g W w' := by
 obtain ⟨va, vc, rfl⟩ := hown.len; have hlt := hc.lt; have hcc0 := hc.cell 0 _ rfl; have hcf0 := hc.frozen 0; go_enter Tryz.func48, Tryz.ntmps48; go_wp2_with (with_reducible first | refine stop_append ?_)
 refine Stop.out ?_; refine wpList_append_tok rfl _ _ rfl (g + 1) l t (by exact (hown.alloc _).alloc _) (W.heap.size + 1) rfl (by simp [World.cell?_alloc_new]) (by simp) (by simp) hl (by simp; omega) W (by (repeat' first | with_reducible refine Below.setCell ?_ ?_ _ | with_reducible refine Below.alloc ?_ ?_ _ | with_reducible refine Below.drew ?_ | with_reducible refine below_drewN ?_ _ | with_reducible assumption | with_reducible exact Below.refl _ _ | (simp only [World.size_alloc, World.size_setCell, World.size_drew]; first | done | omega) | omega)) ?_; intro v' w' hown' hb' hg'; obtain ⟨a2, c2, rfl⟩ := hown'.len; have hq := hc.below hb' (Nat.lt_succ_self g); have hlt' := hq.lt; clear hcc0 hcf0 hg'; have hqc0 := hq.cell 0 _ rfl; have hqf0 := hq.frozen 0; have HX := Lib.hid (And.intro hown' (And.intro hb' hq)); clear hown' hb' hown hc; go_wp2; go_ret; obtain ⟨hown', hb', hq⟩ := HX.out; exact ⟨rfl, .slice a2 (l ++ [t]).length c2, by simpa using hq.setI 0 _, hown'.moved (fun k hk => Below.heap_setCell w' ⟨g, 0, none⟩ _ _ (by show k ≠ g; have := (World.ownsRow.lt hown' k hk).1; omega)), (hb'.mono (Nat.le_succ g)).setCell (Nat.le_refl _) _⟩
def LexRest (l : Bs) (k : Nat) (pre : List Tok) : Prop := lexL l 0 = (pre ++ (lexL (l.drop k) k).1, (lexL (l.drop k) k).2)
theorem LexRest.zero (l : Bs) : LexRest l 0 [] := by unfold LexRest; simp
theorem drop_hd {l : Bs} {k : Nat} (h : k < l.length) : l.drop k = l[k] :: l.drop (k + 1) := List.drop_eq_getElem_cons h
theorem LexRest.blank {l : Bs} {k : Nat} {pre : List Tok} (h : LexRest l k pre) (hk : k < l.length) (hb : blankB l[k] = true) : LexRest l (k + 1) pre := by
 unfold LexRest at h ⊢; rw [h, drop_hd hk, lexL_blank hb]
theorem LexRest.bad {l : Bs} {k : Nat} {pre : List Tok} (h : LexRest l k pre) (hk : k < l.length) (hb : blankB l[k] = false) {o : Nat} {e : Int} (ho : one1 (l.drop k) = .bad o e) : lexL l 0 = (pre, ((k + o : Nat) : Int), e) := by
 unfold LexRest at h; rw [drop_hd hk] at ho h; rw [h, lexL_bad hb ho]; simp
theorem LexRest.tok {l : Bs} {k : Nat} {pre : List Tok} (h : LexRest l k pre) (hk : k < l.length) (hb : blankB l[k] = false) {kd sz : Nat} (ho : one1 (l.drop k) = .tok kd sz) :
  LexRest l (k + sz) (pre ++ [⟨(kd : Nat), strL ((l.drop k).take sz), (k : Nat)⟩]) := by
 unfold LexRest at h ⊢; have ho2 := ho; rw [drop_hd hk] at ho2; rw [h, drop_hd hk, lexL_tok hb ho2, <- drop_hd hk, List.drop_drop]; simp
theorem LexRest.done {l : Bs} {k : Nat} {pre : List Tok} (h : LexRest l k pre) (hk : k = l.length) : lexL l 0 = (pre, -1, 0) := by
 unfold LexRest at h; rw [h, hk, List.drop_length, lexL_nil]; simp
theorem LexRest.len {l : Bs} {k : Nat} {pre : List Tok} (h : LexRest l k pre) : pre.length <= l.length := by
 have h1 := lexL_len l.length l 0 (Nat.le_refl _); unfold LexRest at h; rw [h] at h1; simp at h1; omega
def walkV (x : List Tok × Int × Int) : Value := if x.2.2 = 0 then .tuple #[.int .i64 0, .int .i64 0] else .tuple #[.int .i64 x.2.1, .int .i64 x.2.2]
theorem walkP_any (s : ByteArray) (w0 w : World) (hb0 : Below w0.heap.size w0 w) (hT0 : LexT w0) (hs : s.size <= 1048576) (hc0 : Cells w w0.heap.size #[.slice none 0 0] 22) :
  Calls Tryz.prog 47 #[.string s, .func (.func 48) #[] #[.pointer (some ⟨w0.heap.size, 0, none⟩)]] w fun e w' => e = .returned (walkV (lexL s.data.toList 0)) /\
   ∃ v, Cells w' w0.heap.size #[v] 22 /\ OwnT (w0.heap.size + 1) w' v (lexL s.data.toList 0).1 /\ Below w0.heap.size w0 w' := by
 have HC0 := Lib.hid (And.intro hc0 hb0); clear hc0 hb0; go_enter Tryz.func47, Tryz.ntmps47; go_wp2_with fail; go_step3
 go_wp2_with fail; go_step3
 go_wp2_with fail; go_loopw [4, 5, 6, 7, 8, 9, 10] (fun a e p _ _ _ _ wr => ∃ (k : Nat) (pre : List Tok) (v : Value), a = .int .i64 0 /\ e = .int .i64 0 /\ p = .int .i64 (k : Int) /\ k <= s.size /\ LexRest s.data.toList k pre /\ Cells wr w0.heap.size #[v] 22 /\ OwnT (w0.heap.size + 1) wr v pre /\ Below w0.heap.size w0 wr) (fun _ _ p _ _ _ _ _ => s.size - (intOf p).toNat)
 case atStart => exact ⟨0, [], _, rfl, rfl, rfl, Nat.zero_le _, LexRest.zero _, HC0.out.1, OwnT.nil, HC0.out.2⟩
 case round =>
  clear HC0; obtain ⟨k, pre, v, rfl, rfl, rfl, hk, hR, hc, hown, hb⟩ := hrel
  by_cases hlt : k < s.size
  ·have hB := has_any ⟨#[32, 9, 13]⟩ (s[k]'hlt)
   rw [show (⟨#[32, 9, 13]⟩ : ByteArray).data.toList.contains (s[k]'hlt) = blankB (s[k]'hlt) from rfl] at hB; have hkl : k < s.data.toList.length := by rw [<- size_list]; exact hlt
   have hRl := hR.len; rw [<- size_list] at hRl; have HR := Lib.hid hR; clear hR
   cases hb1 : blankB (s[k]'hlt) with
   | true =>
    rw [hb1] at hB; have HR2 := Lib.hid (HR.out.blank hkl hb1); clear HR hb1; go_wp2_with fail; refine (hB _).mono ?_; rintro _ _ ⟨⟨i, rfl, hi⟩, rfl⟩; go_wp2; go_roundw
    case rel => exact ⟨k + 1, pre, v, rfl, rfl, by go_num, by omega, HR2.out, hc, hown, hb⟩
    case measure => simp [intOf]; omega
   | false =>
    rw [hb1] at hB; have hN := fun W h => next_any (s.extract k s.size) W h (by rw [ByteArray.size_extract]; omega) (by rw [ByteArray.size_extract]; omega); rw [ext_drop] at hN; have hHB := Lib.hid hb1
    cases ho : one1 (s.data.toList.drop k) with
    | bad o e =>
     have HD := Lib.hid (HR.out.bad hkl hb1 ho); have hne : (e != 0) = true := by simpa using one1_err ho
     have hne2 := Lib.hid (one1_err ho); have hof := one1_off ho; rw [List.length_drop, <- size_list] at hof; rw [ho] at hN; simp only [lrV] at hN; clear HR hb1 ho; go_wp2_with fail; refine (hB _).mono ?_; rintro _ _ ⟨⟨i, rfl, hi⟩, rfl⟩; go_wp2_with fail; refine (hN _ (hT0.below hb)).mono ?_; rintro _ w2 ⟨rfl, hb2⟩; have hb3 := hb.trans (hb2.mono hb.size); have hc2 := hc.below hb2 hc.lt; have hown2 := hown.below hb2 (Nat.le_refl _); go_wp2; rw [Exit.noGoto_ret]; refine bodyPost_ret (v := .tuple #[.int .i64 ((k : Int) + o), .int .i64 e]) (by simp [results, Tryz.results47, go_sem]) rfl ?_; rw [HD.out]; unfold walkV; simp only; rw [if_neg hne2.out]; exact ⟨by simp, v, hc2, hown2, hb3⟩
    | tok kd sz =>
     have HD := Lib.hid (HR.out.tok hkl hb1 ho); have hEx : strL ((s.data.toList.drop k).take sz) = s.extract k (k + sz) := str_ext (by rw [ext_list, strL_list, List.drop_take]; congr 1; omega); have hsz := one1_size ho; rw [List.length_drop, <- size_list] at hsz; rw [ho] at hN; simp only [lrV] at hN; clear HR hb1 ho; go_wp2_with fail; refine (hB _).mono ?_; rintro _ _ ⟨⟨i, rfl, hi⟩, rfl⟩; go_wp2_with fail; refine (hN _ (hT0.below hb)).mono ?_; rintro _ w2 ⟨rfl, hb2⟩; have hb3 := hb.trans (hb2.mono hb.size); have hc2 := hc.below hb2 hc.lt; have hown2 := hown.below hb2 (Nat.le_refl _); go_wp2_with fail; rw [hEx] at HD; refine (keep_any ⟨(kd : Nat), s.extract k (k + sz), (k : Nat)⟩ w0.heap.size v pre w2 hc2 hown2 (by omega)).mono ?_; rintro _ w3 ⟨rfl, v3, hc3, hown3, hb4⟩; have hb5 := hb3.trans hb4; go_wp2; go_roundw
     case rel => exact ⟨k + sz, _, v3, rfl, rfl, by go_num, by omega, HD.out, hc3, hown3, hb5⟩
     case measure => simp [intOf]; omega
  ·obtain rfl : k = s.size := by omega
   have HD := Lib.hid (hR.done (size_list s)); clear hR; go_wp2; rw [Exit.noGoto_ret]; refine bodyPost_ret (v := .tuple #[.int .i64 0, .int .i64 0]) (by simp [results, Tryz.results47, go_sem]) rfl ?_; rw [HD.out]; exact ⟨rfl, v, hc, hown, hb⟩
def lexP (l : Bs) : List Tok × Int × Int := if (lexL l 0).2.2 = 0 then ((lexL l 0).1, -1, 0) else ([], (lexL l 0).2)
theorem lexParse_any (s : ByteArray) (w : World) (hT : LexT w) (hs : s.size <= 1048576) :
  Calls Tryz.prog 17 #[.string s] w fun e w' => ∃ v, e = .returned (.tuple #[v, .int .i64 (lexP s.data.toList).2.1, .int .i64 (lexP s.data.toList).2.2]) /\ OwnT w.heap.size w' v (lexP s.data.toList).1 /\ Below w.heap.size w w' := by
 have hW := walkP_any s w (w.alloc (.cells #[.slice none 0 0] 22)) ((Below.refl _ w).alloc (Nat.le_refl _) _) hT hs (Cells.new w _ _); unfold walkV at hW; unfold lexP; obtain ⟨⟨l, p, z⟩, hx⟩ : ∃ x, lexL s.data.toList 0 = x := ⟨_, rfl⟩; rw [hx] at hW ⊢; clear hx; simp only at hW ⊢
 by_cases hz : z = 0
 ·subst hz
  rw [if_pos rfl] at hW; rw [if_pos rfl]; go_enter Tryz.func17, Tryz.ntmps17; go_wp2_with fail; refine hW.mono ?_; rintro _ w2 ⟨rfl, v, hc, hown, hb⟩; obtain ⟨va, vc, rfl⟩ := hown.len; have hl := hc.lt; have hcc0 := hc.cell 0 _ rfl; have hcf0 := hc.frozen 0; have HX := Lib.hid (And.intro hc (And.intro hown hb)); clear hc hown hb hW; go_wp2; obtain ⟨hc, hown, hb⟩ := HX.out; have hc2 := (hc.setI 0 (.slice va l.length vc)).cell 0 _ rfl; refine bodyPost_ret (v := .tuple #[.slice va l.length vc, .int .i64 (-1), .int .i64 0]) (by simp [results, Tryz.results17, go_sem, hc2]) rfl ?_; exact ⟨_, rfl, (hown.moved (fun k hk => Below.heap_setCell _ _ _ _ (by show k ≠ w.heap.size; have := (World.ownsRow.lt hown k hk).1; omega))).base_le (Nat.le_succ _), hb.setCell (Nat.le_refl _) _⟩
 ·rw [if_neg hz] at hW
  rw [if_neg hz]; have hz2 : (z != 0) = true := by simpa using hz
  go_enter Tryz.func17, Tryz.ntmps17; go_wp2_with fail; refine hW.mono ?_; rintro _ w2 ⟨rfl, v, hc, hown, hb⟩; have hl := hc.lt; have hcc0 := hc.cell 0 _ rfl; have hcf0 := hc.frozen 0; have HX := Lib.hid (And.intro hc hb); clear hc hown hb hW; go_wp2; obtain ⟨hc, hb⟩ := HX.out; have hc2 := (hc.setI 0 (.slice none 0 0)).cell 0 _ rfl; refine bodyPost_ret (v := .tuple #[.slice none 0 0, .int .i64 p, .int .i64 z]) (by simp [results, Tryz.results17, go_sem, hc2]) rfl ?_; exact ⟨_, rfl, OwnT.nil, hb.setCell (Nat.le_refl _) _⟩
end Go.Proofs.YtbcdaaobbebooaaGreatDoor
namespace Go.Proofs.YtbcdaaobbebooaaGreatDoor
set_option maxRecDepth 100000
set_option maxHeartbeats 20000000
inductive Itm where
 | mk (block : Bool) (name : ByteArray) (value : Exp) (labels : List ByteArray) (items : List Itm) : Itm
def Itm.block : Itm -> Bool
 | .mk b _ _ _ _ => b
def Itm.items : Itm -> List Itm
 | .mk _ _ _ _ i => i
def zeroI : Itm := .mk false ⟨#[]⟩ zeroX [] []
def Itm.add : Itm -> Itm -> Itm
 | .mk b n v l i, x => .mk b n v l (i ++ [x])
inductive LnR where
 | wrong (at_ e : Int) : LnR
 | empty : LnR
 | attr (x : Itm) : LnR
 | begins (x : Itm) : LnR
 | bare (x : Itm) : LnR
 | fin : LnR
abbrev sLc : ByteArray := ⟨#[123]⟩
abbrev sRc : ByteArray := ⟨#[125]⟩
abbrev sEq : ByteArray := ⟨#[61]⟩
def lackR (row : List Tok) (stop : Int) (last : Bool) (i : Nat) : LnR := match row[i]? with
 | some t => .wrong t.pos 3
 | none => if last then .wrong stop 2 else .wrong stop 3
def attrK (row : List Tok) (stop : Int) (last : Bool) (name : ByteArray) : LnR :=
 if (parE (row.drop 2)).2.2 = 2 \/ ((parE (row.drop 2)).2.2 = 0 /\ 2 + (parE (row.drop 2)).2.1 < row.length) then lackR row stop last (2 + (parE (row.drop 2)).2.1)
 else if (parE (row.drop 2)).2.2 = 0 then .attr (.mk false name (parE (row.drop 2)).1 [] [])
 else match row[2 + (parE (row.drop 2)).2.1]? with
  | some t => .wrong t.pos (parE (row.drop 2)).2.2
  | none => .wrong 0 0
def labs : List Tok -> List ByteArray
 | [] => []
 | t :: r => if t.kind = 3 then (quoX t.text).getD ⟨#[]⟩ :: labs r else []
def blockK (n : Nat) (row : List Tok) (stop : Int) (last : Bool) (name : ByteArray) : LnR :=
 let ls := labs (row.drop 1)
 let i := 1 + ls.length
 let x : Itm := .mk true name zeroX ls []
 if isS (row.drop i) sLc = false then lackR row stop last i
 else if 64 < n then (match row[i]? with | some t => .wrong t.pos 5 | none => .wrong 0 0)
 else if row.length = i + 1 then .begins x
 else if isS (row.drop (i + 1)) sRc = false then lackR row stop last (i + 1)
 else if i + 2 < row.length then lackR row stop last (i + 2)
 else .bare x
def lineK (n : Nat) (row : List Tok) (stop : Int) (last : Bool) : LnR := match row with
 | [] => .empty
 | t :: r =>
  if isS (t :: r) sRc then (if n = 1 then lackR (t :: r) stop last 0 else if 1 < (t :: r).length then lackR (t :: r) stop last 1 else .fin)
  else if t.kind ≠ 1 then lackR (t :: r) stop last 0
  else if isS r sEq then attrK (t :: r) stop last t.text else blockK n (t :: r) stop last t.text
def addTop : List Itm -> Itm -> List Itm
 | [], _ => []
 | [t], x => [t.add x]
 | t :: u :: r, x => t :: addTop (u :: r) x
def readK (st : List Itm) (row : List Tok) (stop : Int) (last : Bool) : List Itm × Int × Int := match lineK st.length row stop last with
 | .wrong a e => (st, a, e)
 | .empty => (st, 0, 0)
 | .attr x => (addTop st x, 0, 0)
 | .begins x => (st ++ [x], 0, 0)
 | .bare x => (addTop st x, 0, 0)
 | .fin => (addTop st.dropLast (st.getLast?.getD zeroI), 0, 0)
def linesF (size : Int) : List Tok -> List Itm -> List Tok -> List Itm × Int × Int
 | [], st, row =>
  if (readK st row size true).2.2 ≠ 0 then ([], (readK st row size true).2)
  else if 1 < (readK st row size true).1.length then ([], size, 2)
  else (((readK st row size true).1.head?.getD zeroI).items, -1, 0)
 | t :: r, st, row =>
  if t.kind = 6 \/ t.kind = 7 then linesF size r st row
  else if t.kind = 5 then
   (if (readK st row t.pos false).2.2 ≠ 0 then ([], (readK st row t.pos false).2) else linesF size r (readK st row t.pos false).1 [])
  else linesF size r st (row ++ [t])
def linesP (l : Bs) : List Itm × Int × Int :=
 if (lexP l).2.2 ≠ 0 then ([], (lexP l).2) else linesF l.length (lexP l).1 [zeroI] []
theorem addTop_len : ∀ (st : List Itm) (x : Itm), (addTop st x).length = st.length
 | [], _ => rfl
 | [_], _ => rfl
 | _ :: u :: r, x => by simp only [addTop, List.length_cons, addTop_len (u :: r) x]
theorem addTop_snoc : ∀ (st : List Itm) (t x : Itm), addTop (st ++ [t]) x = st ++ [t.add x]
 | [], _, _ => rfl
 | [a], t, x => rfl
 | a :: b :: r, t, x => by
  have := addTop_snoc (b :: r) t x; simp only [List.cons_append, addTop] at this ⊢; rw [this]
def readR (st : List Itm) : LnR -> List Itm × Int × Int
 | .wrong a e => (st, a, e)
 | .empty => (st, 0, 0)
 | .attr x => (addTop st x, 0, 0)
 | .begins x => (st ++ [x], 0, 0)
 | .bare x => (addTop st x, 0, 0)
 | .fin => (addTop st.dropLast (st.getLast?.getD zeroI), 0, 0)
theorem readK_R (st : List Itm) (row : List Tok) (stop : Int) (last : Bool) : readK st row stop last = readR st (lineK st.length row stop last) := by
 unfold readK readR; cases lineK st.length row stop last <;> rfl
theorem readR_bare (st : List Itm) (x : Itm) : readR (st ++ [x]) .fin = readR st (.bare x) := by simp [readR]
theorem lineK_fin {n : Nat} {row : List Tok} {stop : Int} {last : Bool} (h : lineK n row stop last = .fin) : n ≠ 1 := by
 intro e; subst e; unfold lineK at h
 cases row with
 | nil => cases h
 | cons t r =>
  simp only at h; split at h
  ·simp only [if_true] at h
   unfold lackR at h; simp only [List.getElem?_cons_zero] at h; cases h
  ·split at h
   ·unfold lackR at h
    simp only [List.getElem?_cons_zero] at h; cases h
   ·split at h
    ·unfold attrK lackR at h
     repeat' split at h
     all_goals cases h
    ·unfold blockK lackR at h
     simp only at h; repeat' split at h
     all_goals cases h
end Go.Proofs.YtbcdaaobbebooaaGreatDoor
namespace Go.Proofs.YtbcdaaobbebooaaGreatDoor
set_option maxRecDepth 100000
set_option maxHeartbeats 20000000
open Go.RowKit Go.Tab
section
variable (E : Exp -> List Value -> Prop) (S : Value -> List ByteArray -> Prop) (B : Nat -> Prop)
mutual
def ItmR (w : World) : Itm -> List Value -> Prop
 | .mk b n v ls its, cs => ∃ vo vt vk lv a cap, cs = [.bool b, .string n, .string vo, .string vt, vk, lv, .slice a its.length cap] /\ E v [.string vo, .string vt, vk] /\ S lv ls /\
   its.length <= cap /\ cap <= maxLen /\ (a = none -> cap = 0) /\ ∀ x, a = some x -> its ≠ [] -> x.spot = none /\ B x.block /\ ItmsR w x.block x.off its
def ItmsR (w : World) (b off : Nat) : List Itm -> Prop
 | [] => True
 | t :: r => (∃ cs, (∀ j u, cs[j]? = some u -> w.cell? ⟨b, off + j, none⟩ = some u) /\ ItmR w t cs) /\ ItmsR w b (off + 7) r
end
end
section
variable {E E' : Exp -> List Value -> Prop} {S S' : Value -> List ByteArray -> Prop} {B B' : Nat -> Prop} {w w' : World}
mutual
theorem ItmR.map (hE : ∀ e cs, E e cs -> E' e cs) (hS : ∀ v l, S v l -> S' v l) (hB : ∀ b, B b -> B' b) (hc : ∀ b, B b -> ∀ off u, w.cell? ⟨b, off, none⟩ = some u -> w'.cell? ⟨b, off, none⟩ = some u) :
  ∀ (t : Itm) (cs : List Value), ItmR E S B w t cs -> ItmR E' S' B' w' t cs
 | .mk b n v ls its, cs, h => by
  simp only [ItmR] at h ⊢; obtain ⟨vo, vt, vk, lv, a, cap, h1, h2, h3, h4, h5, h6, h7⟩ := h; refine ⟨vo, vt, vk, lv, a, cap, h1, hE _ _ h2, hS _ _ h3, h4, h5, h6, fun x hx hne => ?_⟩; obtain ⟨g1, g2, g3⟩ := h7 x hx hne; exact ⟨g1, hB _ g2, ItmsR.map hE hS hB hc g2 its x.off g3⟩
theorem ItmsR.map (hE : ∀ e cs, E e cs -> E' e cs) (hS : ∀ v l, S v l -> S' v l) (hB : ∀ b, B b -> B' b) (hc : ∀ b, B b -> ∀ off u, w.cell? ⟨b, off, none⟩ = some u -> w'.cell? ⟨b, off, none⟩ = some u) {b : Nat} (hb : B b) :
  ∀ (l : List Itm) (off : Nat), ItmsR E S B w b off l -> ItmsR E' S' B' w' b off l
 | [], _, _ => by simp only [ItmsR]
 | t :: r, off, h => by
  simp only [ItmsR] at h ⊢; obtain ⟨⟨cs, h1, h2⟩, h3⟩ := h; exact ⟨⟨cs, fun j u hu => hc b hb _ _ (h1 j u hu), ItmR.map hE hS hB hc t cs h2⟩, ItmsR.map hE hS hB hc hb r _ h3⟩
end
theorem ItmR.open {b : Bool} {n : ByteArray} {v : Exp} {ls : List ByteArray} {its : List Itm} {cs : List Value} (h : ItmR E S B w (.mk b n v ls its) cs) :
  ∃ vo vt vk lv a cap, cs = [.bool b, .string n, .string vo, .string vt, vk, lv, .slice a its.length cap] /\ E v [.string vo, .string vt, vk] /\ S lv ls /\
   its.length <= cap /\ cap <= maxLen /\ (a = none -> cap = 0) /\ ∀ x, a = some x -> its ≠ [] -> x.spot = none /\ B x.block /\ ItmsR E S B w x.block x.off its := by
 simp only [ItmR] at h; exact h
theorem ItmR.len7 {t : Itm} {cs : List Value} (h : ItmR E S B w t cs) : cs.length = 7 := by
 cases t
 obtain ⟨_, _, _, _, _, _, rfl, -⟩ := h.open; rfl
theorem ItmsR.make {b : Nat} : ∀ (l : List Itm) (off : Nat), (∀ k (h : k < l.length), ∃ cs, (∀ (j : Nat) (u : Value), cs[j]? = some u -> w.cell? ⟨b, off + k * 7 + j, none⟩ = some u) /\ ItmR E S B w l[k] cs) -> ItmsR E S B w b off l
 | [], _, _ => by simp only [ItmsR]
 | t :: r, off, h => by
  simp only [ItmsR]; constructor
  ·obtain ⟨cs, h1, h2⟩ := h 0 (by simp)
   exact ⟨cs, fun j u hu => by have := h1 j u hu; simpa using this, by simpa using h2⟩
  ·refine ItmsR.make r (off + 7) (fun k hk => ?_)
   obtain ⟨cs, h1, h2⟩ := h (k + 1) (by simp; omega); refine ⟨cs, fun j u hu => ?_, by simpa using h2⟩; rw [<- h1 j u hu]
   congr 2
   omega
end
def ItmAt (w : World) : Itm -> List Value -> Prop := ItmR (ExpAt w) (RowOf Value.string w) (fun b => b < w.heap.size) w
def RowIn (P : Nat -> Prop) (w : World) (v : Value) (l : List ByteArray) : Prop := RowOf Value.string w v l /\ ∀ k, v.ownBlock = some k -> P k /\ k < w.heap.size
def ItmIn (P : Nat -> Prop) (w : World) : Itm -> List Value -> Prop := ItmR (ExpIn P w) (RowIn P w) (fun b => b < w.heap.size /\ P b) w
theorem ItmIn.at {P : Nat -> Prop} {w : World} (t : Itm) (cs : List Value) (h : ItmIn P w t cs) : ItmAt w t cs :=
 ItmR.map (fun e cs h => ExpIn.at e cs h) (fun _ _ h => h.1) (fun _ h => h.1) (fun _ _ _ _ h => h) t cs h
theorem RowIn.move {P Q : Nat -> Prop} {w w' : World} (hs : w.heap.size <= w'.heap.size) (hb : ∀ k, P k -> k < w.heap.size -> w'.heap[k]? = w.heap[k]?) (hq : ∀ k, P k -> k < w.heap.size -> Q k) {v : Value} {l : List ByteArray} (h : RowIn P w v l) : RowIn Q w' v l :=
 ⟨h.1.moved hs (fun b off hlt hv => cell_same (hb b (h.2 b hv).1 hlt) off), fun k hk => ⟨hq k (h.2 k hk).1 (h.2 k hk).2, Nat.lt_of_lt_of_le (h.2 k hk).2 hs⟩⟩
theorem ItmIn.move {P Q : Nat -> Prop} {w w' : World} (hs : w.heap.size <= w'.heap.size) (hb : ∀ k, P k -> k < w.heap.size -> w'.heap[k]? = w.heap[k]?) (hq : ∀ k, P k -> k < w.heap.size -> Q k) (t : Itm) (cs : List Value) (h : ItmIn P w t cs) : ItmIn Q w' t cs :=
 ItmR.map (fun e cs h => ExpIn.move hs hb hq e cs h) (fun _ _ h => h.move hs hb hq) (fun b h => ⟨Nat.lt_of_lt_of_le h.1 hs, hq b h.2 h.1⟩) (fun b h off u hu => (cell_same (hb b h.2 h.1) off).trans hu) t cs h
theorem ItmIn.below {P : Nat -> Prop} {w w' : World} (hb : Below w.heap.size w w') (t : Itm) (cs : List Value) (h : ItmIn P w t cs) : ItmIn P w' t cs :=
 ItmIn.move hb.size (fun k _ hk => hb.block k hk) (fun _ h _ => h) t cs h
theorem ItmIn.leaf {P : Nat -> Prop} {w : World} {b : Bool} {n : ByteArray} {v : Exp} {ls : List ByteArray} {vo vt : ByteArray} {vk lv : Value} (hv : ExpIn P w v [.string vo, .string vt, vk]) (hl : RowIn P w lv ls) :
  ItmIn P w (.mk b n v ls []) [.bool b, .string n, .string vo, .string vt, vk, lv, .slice none 0 0] := by
 unfold ItmIn; simp only [ItmR]; exact ⟨vo, vt, vk, lv, none, 0, rfl, hv, hl, Nat.le_refl _, Nat.zero_le _, fun _ => rfl, fun x hx => by cases hx⟩
theorem RowIn.nil {P : Nat -> Prop} {w : World} : RowIn P w (.slice none 0 0) [] := ⟨RowOf.nil, fun k hk => by cases hk⟩
def ItmsAt (w : World) (v : Value) (l : List Itm) : Prop := ∃ a cap, v = .slice a l.length cap /\ l.length <= cap /\ cap <= maxLen /\ (a = none -> cap = 0) /\
 ∀ x, a = some x -> l ≠ [] -> x.spot = none /\ x.block < w.heap.size /\ ItmsR (ExpAt w) (RowOf Value.string w) (fun b => b < w.heap.size) w x.block x.off l
theorem ItmsAt.len {w : World} {v : Value} {l : List Itm} (h : ItmsAt w v l) : ∃ a cap, v = .slice a l.length cap /\ l.length <= cap /\ cap <= maxLen /\ (a = none -> cap = 0) := by
 obtain ⟨a, cap, h1, h2, h3, h4, -⟩ := h; exact ⟨a, cap, h1, h2, h3, h4⟩
def OwnC (base : Nat) (w : World) (v : Value) (css : List (List Value)) : Prop := w.ownsRow base 54 7 v css.length css.flatten /\ ∀ cs ∈ css, cs.length = 7
theorem OwnC.lt {base : Nat} {w : World} {v : Value} {css : List (List Value)} (h : OwnC base w v css) : ∀ k, v.ownBlock = some k -> base <= k /\ k < w.heap.size := World.ownsRow.lt h.1
theorem flat7 : ∀ (css : List (List Value)) (h : ∀ cs ∈ css, cs.length = 7) (k : Nat) (hk : k < css.length) (j : Nat) (hj : j < 7), css.flatten[k * 7 + j]? = (css[k])[j]?
 | c :: r, h, 0, _, j, hj => by
  have hc := h c (by simp); simp only [List.flatten_cons, Nat.zero_mul, Nat.zero_add, List.getElem_cons_zero]; rw [List.getElem?_append_left (by omega)]
 | c :: r, h, k + 1, hk, j, hj => by
  have hc := h c (by simp); have ih := flat7 r (fun cs hcs => h cs (by simp [hcs])) k (by simpa using hk) j hj; simp only [List.flatten_cons, List.getElem_cons_succ]; rw [List.getElem?_append_right (by omega), <- ih]
  congr 1
  omega
theorem OwnC.cellAt {base : Nat} {w : World} {a : Option Addr} {n cap : Nat} {css : List (List Value)} (h : OwnC base w (.slice a n cap) css) {k : Nat} (hk : k < css.length) :
  ∃ g, a = some ⟨g, 0, none⟩ /\ base <= g /\ g < w.heap.size /\ (∀ (j : Nat) (u : Value), css[k][j]? = some u -> w.cell? ⟨g, k * 7 + j, none⟩ = some u) /\ ∀ off, w.frozen? ⟨g, off, none⟩ = false := by
 have hlt := h.lt; obtain ⟨⟨h1, h2⟩, h7⟩ := h; rcases h2 with ⟨he, h3⟩ | ⟨g, cap', cur, he, hb, hg, h3, h4, h5, h6⟩
 ·omega
 ·cases he
  refine ⟨g, rfl, hb, (hlt g rfl).2, fun j u hu => ?_, fun off => ?_⟩
  ·have hj : j < 7 := by have := (List.getElem?_eq_some_iff.1 hu).1; rw [h7 _ (List.getElem_mem _)] at this; exact this
   rw [cell_of_row w g _ cur 54 (0, 0) hg]; have h8 := flat7 css h7 k hk j hj; rw [<- h6, List.getElem?_take, if_pos (by omega), hu] at h8
   simpa using h8
  ·simp [World.frozen?, hg]
theorem Tryz.infoItm : (Tryz.prog.info? 54).map (fun i => (i.zero, i.size, i.bytes)) = some (some (.agg #[.bool false, .string ⟨#[]⟩, .string ⟨#[]⟩, .string ⟨#[]⟩, .slice none 0 0, .slice none 0 0, .slice none 0 0]), 7, 128) := by kernel_rfl
theorem lexL_text : ∀ (k : Nat) (l : Bs) (p : Nat), l.length <= k -> ∀ t ∈ (lexL l p).1, t.text.size <= l.length
 | 0, l, p, h => by
  obtain rfl := List.eq_nil_of_length_eq_zero (Nat.le_zero.1 h); intro t ht; rw [lexL_nil] at ht; cases ht
 | k + 1, [], p, _ => by
  intro t ht; rw [lexL_nil] at ht; cases ht
 | k + 1, c :: r, p, h => by
  simp only [List.length_cons] at h ⊢
  by_cases hb : blankB c = true
  ·rw [lexL_blank hb]
   intro t ht; have := lexL_text k r (p + 1) (by omega) t ht; omega
  ·have hb : blankB c = false := by simpa using hb
   cases ho : one1 (c :: r) with
   | bad off e =>
    rw [lexL_bad hb ho]; intro t ht; cases ht
   | tok kd sz =>
    have hs := one1_size ho; rw [lexL_tok hb ho]; intro t ht; rcases List.mem_cons.1 ht with rfl | ht
    ·show (strL ((c :: r).take sz)).size <= _
     have : (strL ((c :: r).take sz)).size = ((c :: r).take sz).length := by unfold strL; simp [ByteArray.size]
     rw [this, List.length_take, List.length_cons]; omega
    ·have := lexL_text k ((c :: r).drop sz) (p + sz) (by rw [List.length_drop, List.length_cons]; omega) t ht
     rw [List.length_drop, List.length_cons] at this; omega
theorem lexP_len (l : Bs) : (lexP l).1.length <= l.length /\ ∀ t ∈ (lexP l).1, t.text.size <= l.length := by
 unfold lexP; split
 ·exact ⟨lexL_len _ _ _ (Nat.le_refl _), lexL_text _ _ _ (Nat.le_refl _)⟩
 ·exact ⟨Nat.zero_le _, fun t ht => by cases ht⟩
theorem size_list2 (s : ByteArray) : s.data.toList.length = s.size := by rw [Array.length_toList]; rfl
end Go.Proofs.YtbcdaaobbebooaaGreatDoor
