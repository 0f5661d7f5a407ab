/- Texts of this claim, one behind the other: TdP, TdF, LkD, TdA, TdB, TdC, BoI, LkE, LkF, BoC. -/
import Derived.Test.YtbcdaaobbebooaaGreatDoorMgb
import Derived.Test.YtbcdaaobbebooaaGreatDoorMgf
import Derived.Test.YtbcdaaobbebooaaGreatDoorMgg
import Derived.Test.YtbcdaaobbebooaaGreatDoorMgh
import Derived.Deep.AppendLies
set_option linter.unusedSimpArgs false
set_option linter.unusedVariables false
namespace Go.Proofs.YtbcdaaobbebooaaGreatDoor
set_option maxRecDepth 100000
set_option maxHeartbeats 20000000
def lastR (r : List Tok) : Bool := match r.getLast? with | some t => isB t sLc | none => false
def headR (r : List Tok) : Bool := match r with | t :: _ => isB t sRc | [] => false
def dropE : List (List Tok) -> List (List Tok)
 | [] => []
 | [] :: r => dropE r
 | (t :: q) :: r => (t :: q) :: r
def jnR (r : List Tok) (rest : List (List Tok)) : List Tok × List (List Tok) :=
 if lastR r then (match dropE rest with | x :: q => if headR x then (r ++ x, q) else (r, rest) | [] => (r, rest)) else (r, rest)
structure FRow where
 toks : List Tok
 after : Bool
def effM : Nat -> Bool -> List (List Tok) -> List FRow
 | 0, _, _ => []
 | _ + 1, _, [] => []
 | n + 1, _, [] :: rest => effM n true rest
 | n + 1, gap, (t :: q) :: rest => ⟨(jnR (t :: q) rest).1, gap⟩ :: effM n false (jnR (t :: q) rest).2
theorem dropE_cons {rows q : List (List Tok)} {x : List Tok} (h : dropE rows = x :: q) : x ≠ [] /\ q.length < rows.length /\ ∀ r, r = x \/ r ∈ q -> r ∈ rows := by
 induction rows with
 | nil => cases h
 | cons a rows ih =>
  cases a with
  | nil =>
   obtain ⟨h1, h2, h3⟩ := ih h; exact ⟨h1, by simp; omega, fun r hr => by simp [h3 r hr]⟩
  | cons t p =>
   simp only [dropE, List.cons.injEq] at h; obtain ⟨rfl, rfl⟩ := h; exact ⟨by simp, by simp, fun r hr => by rcases hr with rfl | hr <;> simp [*]⟩
end Go.Proofs.YtbcdaaobbebooaaGreatDoor
namespace Go.Proofs.YtbcdaaobbebooaaGreatDoor
set_option maxRecDepth 100000
set_option maxHeartbeats 20000000
abbrev txB (t : Tok) : Bs := t.text.data.toList
def spB (n : Nat) : Bs := List.replicate n 32
def pcB (x : Nat × Tok) : Bs := spB x.1 ++ txB x.2
def catQ (l : List (Nat × Tok)) : Bs := l.flatMap pcB
def gapAt (row : List Tok) (ind i : Nat) : Nat := if i = 0 then ind else gapN row i
def pcsR (row : List Tok) (ind : Nat) : List (Nat × Tok) := row.mapIdx fun i t => (gapAt row ind i, t)
def partB (row : List Tok) (ind fr en : Nat) : Bs := catQ (((pcsR row ind).take en).drop fr)
theorem pcsR_len (row : List Tok) (ind : Nat) : (pcsR row ind).length = row.length := List.length_mapIdx
theorem pcsR_at {row : List Tok} {ind k : Nat} (h : k < row.length) : (pcsR row ind)[k]'(by rw [pcsR_len]; exact h) = (gapAt row ind k, row[k]) := by
 unfold pcsR; rw [List.getElem_mapIdx]
theorem partB_nil (row : List Tok) (ind fr : Nat) : partB row ind fr fr = [] := by
 unfold partB; rw [List.drop_eq_nil_of_le (by rw [List.length_take]; omega)]
 rfl
theorem catQ_app (a b : List (Nat × Tok)) : catQ (a ++ b) = catQ a ++ catQ b := List.flatMap_append
theorem partB_go {row : List Tok} {ind fr k : Nat} (h1 : fr <= k) (h2 : k < row.length) : partB row ind fr (k + 1) = partB row ind fr k ++ (spB (gapAt row ind k) ++ txB row[k]) := by
 have hk : k < (pcsR row ind).length := by rw [pcsR_len]; exact h2
 unfold partB; rw [List.take_add_one, List.getElem?_eq_getElem hk, pcsR_at h2, List.drop_append_of_le_length (by rw [List.length_take]; omega), catQ_app]
 simp [catQ, pcB]
def cntB (l : Bs) : Nat := if (scan (nb l) 0).2.isNone then (scan (nb l) 0).1.length else 0
def plF : List Tok -> Nat -> Nat -> Option Nat
 | [], _, _ => none
 | t :: r, i, 0 => if comB t then plF r (i + 1) 0 else some i
 | t :: r, i, n + 1 => if comB t then plF r (i + 1) (n + 1) else plF r (i + 1) n
def eqR (r : List Tok) : Option Nat := match plF r 0 1 with
 | some i => if isB (r[i]?.getD ⟨0, ⟨#[]⟩, 0⟩) sEq then some i else none
 | none => none
theorem plF_ge : ∀ (r : List Tok) (i n j : Nat), plF r i n = some j -> i + n <= j /\ j < i + r.length
 | [], _, _, _, h => by cases h
 | t :: r, i, 0, j, h => by
  rw [plF] at h; simp only [List.length_cons]; split at h
  ·have := plF_ge r (i + 1) 0 j h; omega
  ·cases h; omega
 | t :: r, i, n + 1, j, h => by
  rw [plF] at h; simp only [List.length_cons]; split at h
  ·have := plF_ge r (i + 1) (n + 1) j h; omega
  ·have := plF_ge r (i + 1) n j h; omega
theorem eqR_some {r : List Tok} {i : Nat} (h : eqR r = some i) : 1 <= i /\ i < r.length := by
 unfold eqR at h; split at h
 ·next j hj =>
  split at h
  ·cases h
   have := plF_ge r 0 1 i hj; omega
  ·cases h
 ·cases h
structure TRow where
 toks : List Tok
 dep : Int
def mrgF : List FRow -> Int -> Option Bool -> List TRow
 | [], _, _ => []
 | f :: r, d, pv => (if f.after && (pv.isSome && (!clR f.toks && pv != some true)) then [⟨[], 0⟩] else []) ++ ⟨f.toks, depR d f.toks⟩ :: mrgF r (nxtO d f.toks) (some (opR f.toks))
def tidyR (l : List (List Tok)) : List TRow := mrgF (effM l.length false l) 0 none
def TRow.ind (r : TRow) : Nat := (2 * r.dep).toNat
def TRow.eq (r : TRow) : Nat := (eqR r.toks).getD 0
def headB (r : TRow) : Bs := partB r.toks r.ind 0 r.eq
def widB (run : List TRow) : Nat := run.foldl (fun m r => max m (cntB (headB r))) 0
def lineA (W : Nat) (r : TRow) : Bs := headB r ++ (spB (W - cntB (headB r) + 1) ++ (txB (r.toks[r.eq]?.getD ⟨0, ⟨#[]⟩, 0⟩) ++ (partB r.toks r.ind (r.eq + 1) r.toks.length ++ [10])))
def alnB (run : List TRow) : Bs := run.flatMap (lineA (widB run))
def rowB (r : TRow) : Bs := partB r.toks r.ind 0 r.toks.length ++ [10]
def runsF : List TRow -> List TRow -> Bs
 | [], run => alnB run
 | r :: l, run => if (eqR r.toks).isSome then runsF l (run ++ [r]) else alnB run ++ (rowB r ++ runsF l [])
def tidyB (l : List (List Tok)) : Bs := runsF (tidyR l) []
def tidyP (l : Bs) : Bs × Int × Int := if (linesP l).2.2 = 0 then (tidyB ((rowsP l).map (·.toks)), -1, 0) else ([], (linesP l).2)
end Go.Proofs.YtbcdaaobbebooaaGreatDoor
namespace Go.Proofs.YtbcdaaobbebooaaGreatDoor
set_option maxRecDepth 100000
set_option maxHeartbeats 20000000
open Go.RowKit Go.Tab
def retO : Option Nat -> Int
 | some i => (i : Int)
 | none => -1
theorem plF_none {l : List Tok} {k n : Nat} (h : l.length <= k) : plF (l.drop k) k n = none := by rw [List.drop_eq_nil_of_le h]; cases n <;> rfl
theorem plF_com {l : List Tok} {k n : Nat} (h : k < l.length) (hc : comB l[k] = true) : plF (l.drop k) k n = plF (l.drop (k + 1)) (k + 1) n := by
 rw [List.drop_eq_getElem_cons h]; cases n <;> rw [plF, if_pos hc]
theorem plF_hit {l : List Tok} {k : Nat} (h : k < l.length) (hc : comB l[k] = false) : plF (l.drop k) k 0 = some k := by
 rw [List.drop_eq_getElem_cons h, plF, if_neg (by rw [hc]; decide)]
theorem plF_next {l : List Tok} {k n : Nat} (h : k < l.length) (hc : comB l[k] = false) : plF (l.drop k) k (n + 1) = plF (l.drop (k + 1)) (k + 1) n := by
 rw [List.drop_eq_getElem_cons h, plF, if_neg (by rw [hc]; decide)]
theorem plF_first : ∀ (l : List Tok) (i : Nat), match plF l i 0 with
  | some j => ∃ h : j - i < l.length, i <= j /\ (plR l).head? = some l[j - i]
  | none => plR l = []
 | [], i => by simp [plF, plR]
 | t :: l, i => by
  by_cases hc : comB t = true
  ·rw [plF, if_pos hc]
   have ih := plF_first l (i + 1); have hp : plR (t :: l) = plR l := by unfold plR; rw [List.filter_cons_of_neg (by rw [hc]; decide)]
   rw [hp]; split at ih
   ·next j hj =>
    obtain ⟨h1, h2, h3⟩ := ih; obtain ⟨m, rfl⟩ : ∃ m, j = i + 1 + m := ⟨j - (i + 1), by omega⟩
    have e1 : i + 1 + m - (i + 1) = m := by omega
    have e2 : i + 1 + m - i = m + 1 := by omega
    simp only [e1, e2] at *; exact ⟨by simp; omega, by omega, h3⟩
   ·exact ih
  ·rw [plF, if_neg hc]
   have hp : plR (t :: l) = t :: plR l := by unfold plR; rw [List.filter_cons_of_pos (by simpa using hc)]
   rw [hp]; simp
theorem clR_pl (l : List Tok) : clR l = match plF l 0 0 with
  | some j => isB (l[j]?.getD ⟨0, ⟨#[]⟩, 0⟩) sRc
  | none => false := by
 have h := plF_first l 0; unfold clR; split at h
 ·next j hj =>
  obtain ⟨h1, -, h3⟩ := h; simp only [Nat.sub_zero] at h1 h3; rw [List.getElem?_eq_getElem h1]
  cases hp : plR l with
  | nil => rw [hp] at h3; cases h3
  | cons t r => rw [hp] at h3; cases h3; rfl
 ·rw [h]
theorem opR_take {l : List Tok} {k : Nat} (h : k < l.length) : opR (l.take (k + 1)) = if comB l[k] then opR (l.take k) else isB l[k] sLc := by
 unfold opR plR; rw [List.take_succ_eq_append_getElem h, List.filter_append]
 by_cases hc : comB l[k] = true
 ·rw [if_pos hc, List.filter_cons_of_neg (by rw [hc]; decide), List.filter_nil, List.append_nil]
 ·rw [if_neg hc, List.filter_cons_of_pos (by simpa using hc), List.filter_nil, List.getLast?_concat]
abbrev rowV (v : Value) (lo hi d : Int) : Value := .agg #[v, .int .i64 lo, .int .i64 hi, .int .i64 d]
theorem tok_far {w : World} {a : Option Addr} {n c : Nat} {l : List Tok} (h : ToksAt w (.slice a n c) l) {k : Nat} (hk : k < l.length) :
  ∃ b off, a = some ⟨b, off, none⟩ /\ b < w.heap.size /\ ∀ W, Below w.heap.size w W -> W.cell? ⟨b, off + k * 3, none⟩ = some (.int .i64 l[k].kind) /\ W.cell? ⟨b, off + k * 3 + 1, none⟩ = some (.string l[k].text) /\ W.cell? ⟨b, off + k * 3 + 2, none⟩ = some (.int .i64 l[k].pos) := by
 obtain ⟨b, off, rfl, hlt, q0, q1, q2⟩ := h.get hk; exact ⟨b, off, rfl, hlt, fun W hW => ⟨(hW.cell (p := ⟨b, off + k * 3, none⟩) hlt).trans q0, (hW.cell (p := ⟨b, off + k * 3 + 1, none⟩) hlt).trans q1, (hW.cell (p := ⟨b, off + k * 3 + 2, none⟩) hlt).trans q2⟩⟩
theorem lkPlain_any (w : World) (lv : Value) (l : List Tok) (lo hi d : Int) (n : Nat) (h : ToksAt w lv l) (hl : l.length <= 1000000) (hn : n <= 10) :
  Calls Tryz.prog 136 #[rowV lv lo hi d, .int .i64 (n : Nat)] w fun e w' => e = .returned (.int .i64 (retO (plF l 0 n))) /\ Below w.heap.size w w' := by
 obtain ⟨a, c, rfl, h1, h2, -⟩ := h.len; unfold maxLen at h2; have hb0 : Below w.heap.size w (w.alloc (.cells #[.slice a l.length c, .int .i64 lo, .int .i64 hi, .int .i64 d] 110)) := (Below.refl _ w).alloc (Nat.le_refl _) _; have HB0 := Lib.hid hb0; have HT := Lib.hid h; clear h hb0; go_enter Tryz.func136, Tryz.ntmps136; go_wp2_with fail; go_loopw [1, 10] (fun nn i wr => ∃ (k m : Nat), k <= l.length /\ i = .int .i64 (k : Int) /\ nn = .int .i64 (m : Int) /\ m <= 10 /\ Hid (plF (l.drop k) k m = plF l 0 n) /\ Below w.heap.size w wr) (fun _ i _ => l.length - (intOf i).toNat)
 case atStart => exact ⟨0, n, Nat.zero_le _, rfl, rfl, hn, Lib.hid rfl, HB0.out⟩
 case round =>
  obtain ⟨k, m, hk, rfl, rfl, hm, HA, hb⟩ := hrel; have HB := Lib.hid hb
  by_cases hkl : k < l.length
  ·obtain ⟨b, off, rfl, hbl, hq⟩ := tok_far (HT.out.below hb (Nat.le_refl _)) hkl
   obtain ⟨q0, q1, q2⟩ := hq wr (Below.refl _ _); have hX := tokB_below wr l[k]; have hC := lkCom_any l[k] (wr.alloc (tokB l[k])); have H1 := Lib.hid (fun hc => plF_com (n := m) hkl hc); have H2 := Lib.hid (fun hc => plF_hit hkl hc); have H3 := Lib.hid (fun hc n => plF_next (n := n) hkl hc); generalize l[k] = t at *; obtain ⟨kd, tx, ps⟩ := t; simp only [tokV] at hC q0 q1 q2; generalize comB ⟨kd, tx, ps⟩ = cb at *; have HX := Lib.hid ((HB.out.trans (hX.mono HB.out.size)).alloc (by have := HB.out.size; simp; omega) (tokB ⟨kd, tx, ps⟩))
   clear hX hb hq
   cases cb with
   | true =>
    go_wp2_with fail; refine hC.mono ?_; rintro _ _ ⟨rfl, rfl⟩; clear hC; go_wp2_with fail; go_roundw
    case rel => exact ⟨k + 1, m, hkl, by go_num, rfl, hm, Lib.hid (by rw [<- HA.out, H1.out (by trivial)]), HX.out⟩
    case measure => simp [intOf] <;> omega
   | false =>
    go_wp2_with fail; refine hC.mono ?_; rintro _ _ ⟨rfl, rfl⟩; clear hC
    cases m with
    | zero =>
     go_wp2_with fail; go_ret; rw [<- HA.out, H2.out (by trivial)]
     exact ⟨rfl, HX.out⟩
    | succ m =>
     have hm0 : (((m + 1 : Nat) : Int) == 0) = false := by simp; omega
     have hm1 : ((m + 1 : Nat) : Int) - 1 = (m : Int) := by omega
     go_wp2_with fail; go_roundw
     case rel => exact ⟨k + 1, m, hkl, by go_num, by go_num, by omega, Lib.hid (by rw [<- HA.out, H3.out (by trivial)]), HX.out⟩
     case measure => simp [intOf] <;> omega
  ·obtain rfl : k = l.length := by omega
   have hE := plF_none (l := l) (n := m) (Nat.le_refl _); have HE := Lib.hid hE; clear hE hb; go_wp2_with fail; go_ret; rw [<- HA.out, HE.out]; exact ⟨rfl, HB.out⟩
theorem lkCloses_any (w : World) (lv : Value) (l : List Tok) (lo hi d : Int) (h : ToksAt w lv l) (hl : l.length <= 1000000) :
  Calls Tryz.prog 101 #[rowV lv lo hi d] w fun e w' => e = .returned (.bool (clR l)) /\ Below w.heap.size w w' := by
 obtain ⟨a, c, rfl, h1, h2, -⟩ := h.len; unfold maxLen at h2; have hb0 : Below w.heap.size w (w.alloc (.cells #[.slice a l.length c, .int .i64 lo, .int .i64 hi, .int .i64 d] 110)) := (Below.refl _ w).alloc (Nat.le_refl _) _; have hR := clR_pl l; have hP := lkPlain_any _ _ l lo hi d 0 (h.below hb0 (Nat.le_refl _)) hl (by omega)
 have hc := (Cells.new w #[.slice a l.length c, .int .i64 lo, .int .i64 hi, .int .i64 d] 110)
 cases hp : plF l 0 0 with
 | none =>
  rw [hp] at hR hP; rw [hR]; simp only [retO] at hP; clear h hR hp hc; go_enter Tryz.func101, Tryz.ntmps101; go_wp2_with fail; refine hP.mono ?_; rintro _ w2 ⟨rfl, hb2⟩; have HB := Lib.hid (hb0.trans (hb2.mono hb0.size)); clear hP hb0 hb2; go_wp2_with fail; go_ret; exact ⟨rfl, HB.out⟩
 | some j =>
  have hj := (plF_ge l 0 0 j hp).2; rw [Nat.zero_add] at hj; rw [hp] at hR hP; simp only [List.getElem?_eq_getElem hj, Option.getD_some] at hR; rw [hR]; simp only [retO] at hP; obtain ⟨b, off, rfl, hbl, hq⟩ := tok_far h hj; have hM := fun W => among_tok l[j] ⟨#[125]⟩ W (by decide)
  have hcn : isB l[j] sRc = amongB l[j] [125] := (among_one l[j] 125).symm; have HQ := Lib.hid hq; generalize l[j] = t at *; obtain ⟨kd, tx, ps⟩ := t; simp only [tokV] at hM HQ; rw [hcn]; change ∀ W, Calls _ _ _ _ (fun e w' => e = .returned (.bool (amongB ⟨kd, tx, ps⟩ [125])) /\ _) at hM; generalize amongB ⟨kd, tx, ps⟩ [125] = ab at *; have HC := Lib.hid hc; clear h hR hp hq hc hcn; go_enter Tryz.func101, Tryz.ntmps101; go_wp2_with fail; refine hP.mono ?_; rintro _ w2 ⟨rfl, hb2⟩; have hcc := HC.out.below hb2 HC.out.lt; obtain ⟨q0, q1, q2⟩ := HQ.out w2 (hb0.trans (hb2.mono hb0.size)); have hlt := hcc.lt; have HB := Lib.hid (hb0.trans (hb2.mono hb0.size)); have hccc0 := hcc.cell 0 _ rfl; have hccf0 := hcc.frozen 0; have hccc1 := hcc.cell 1 _ rfl; have hccf1 := hcc.frozen 1; have hccc2 := hcc.cell 2 _ rfl; have hccf2 := hcc.frozen 2; have hccc3 := hcc.cell 3 _ rfl; have hccf3 := hcc.frozen 3; clear hP hb0 hb2 hcc; go_wp2_with fail; refine (hM _).mono ?_; rintro _ w3 ⟨rfl, hb3⟩; have HB3 := Lib.hid (HB.out.trans (hb3.mono HB.out.size)); clear hM hb3; go_wp2_with fail; go_ret; exact ⟨rfl, HB3.out⟩
theorem lkOpens_any (w : World) (lv : Value) (l : List Tok) (lo hi d : Int) (h : ToksAt w lv l) (hl : l.length <= 1000000) :
  Calls Tryz.prog 102 #[rowV lv lo hi d] w fun e w' => e = .returned (.bool (opR l)) /\ Below w.heap.size w w' := by
 obtain ⟨a, c, rfl, h1, h2, -⟩ := h.len; unfold maxLen at h2; have hb0 : Below w.heap.size w (w.alloc (.cells #[.slice a l.length c, .int .i64 lo, .int .i64 hi, .int .i64 d] 110)) := (Below.refl _ w).alloc (Nat.le_refl _) _; have HC := Lib.hid (Cells.new w #[.slice a l.length c, .int .i64 lo, .int .i64 hi, .int .i64 d] 110); have HB0 := Lib.hid hb0; have HT := Lib.hid h; have kq : IntKind.i64.wrap ((l.length : Int) - 1) = (l.length : Int) - 1 := IntWalk.i64_in _ (by omega)
 clear h hb0; go_enter Tryz.func102, Tryz.ntmps102; go_wp2_with fail; go_loopw [3] (fun v wr => ∃ k : Nat, k <= l.length /\ v = .int .i64 ((k : Int) - 1) /\ Hid (opR (l.take k) = opR l) /\ Below w.heap.size w wr /\ Cells wr w.heap.size #[.slice a l.length c, .int .i64 lo, .int .i64 hi, .int .i64 d] 110) (fun v _ => (intOf v + 1).toNat)
 case atStart => exact ⟨l.length, Nat.le_refl _, by go_num, Lib.hid (by rw [List.take_length]), HB0.out, HC.out⟩
 case round =>
  obtain ⟨k, hk, rfl, HA, hb, hcc⟩ := hrel; have HB := Lib.hid hb; have HCC := Lib.hid hcc; have hcl := hcc.lt
  cases k with
  | zero =>
   clear hb; have hccc0 := hcc.cell 0 _ rfl; have hccf0 := hcc.frozen 0; have hccc1 := hcc.cell 1 _ rfl; have hccf1 := hcc.frozen 1; have hccc2 := hcc.cell 2 _ rfl; have hccf2 := hcc.frozen 2; have hccc3 := hcc.cell 3 _ rfl; have hccf3 := hcc.frozen 3; clear hcc; go_wp2_with fail; go_ret; rw [<- HA.out]; exact ⟨rfl, HB.out⟩
  | succ k =>
   have hkl : k < l.length := by omega
   obtain ⟨b, off, rfl, hbl, hq⟩ := tok_far (HT.out.below hb (Nat.le_refl _)) hkl; obtain ⟨q0, q1, q2⟩ := hq wr (Below.refl _ _); have hS := opR_take hkl; have hk1 : IntKind.i64.wrap ((k : Int) - 1) = (k : Int) - 1 := IntWalk.i64_in _ (by omega)
   have hk2 : ((k + 1 : Nat) : Int) - 1 = (k : Int) := by omega
   rw [hk2]; have HQ := Lib.hid hq; generalize l[k] = t at *; have hC := lkCom_any t wr; have hM := fun W => among_tok t ⟨#[123]⟩ W (by decide)
   rw [show isB t sLc = amongB t [123] from (among_one t 123).symm] at hS; obtain ⟨kd, tx, ps⟩ := t; simp only [tokV] at hC hM q0 q1 q2 HQ; change ∀ W, Calls _ _ _ _ (fun e w' => e = .returned (.bool (amongB ⟨kd, tx, ps⟩ [123])) /\ _) at hM; generalize comB ⟨kd, tx, ps⟩ = cb at *; generalize amongB ⟨kd, tx, ps⟩ [123] = ab at *; have HS := Lib.hid hS; have HX := Lib.hid (HB.out.alloc HB.out.size (tokB ⟨kd, tx, ps⟩)); have HD := Lib.hid (HCC.out.alloc (tokB ⟨kd, tx, ps⟩)); have hccc0 := hcc.cell 0 _ rfl; have hccf0 := hcc.frozen 0; have hccc1 := hcc.cell 1 _ rfl; have hccf1 := hcc.frozen 1; have hccc2 := hcc.cell 2 _ rfl; have hccf2 := hcc.frozen 2; have hccc3 := hcc.cell 3 _ rfl; have hccf3 := hcc.frozen 3; clear hS hb hk2 hq hcc
   cases cb with
   | true =>
    go_wp2_with fail; refine hC.mono ?_; rintro _ _ ⟨rfl, rfl⟩; clear hC hM; go_wp2_with fail; go_roundw
    case rel => exact ⟨k, by omega, rfl, Lib.hid (by rw [<- HA.out, HS.out]; try rfl), HX.out, HD.out⟩
    case measure => simp [intOf] <;> omega
   | false =>
    go_wp2_with fail; refine hC.mono ?_; rintro _ _ ⟨rfl, rfl⟩; clear hC; go_wp2_with fail; refine (hM _).mono ?_; rintro _ w4 ⟨rfl, hb4⟩; have HB4 := Lib.hid (below_more HX.out hb4); clear hM hb4; go_wp2_with fail; go_ret; rw [<- HA.out, HS.out]; exact ⟨rfl, HB4.out⟩
abbrev rowW (v : Value) (d : Int) : Value := .agg #[v, .int .i64 d]
def tokO (l : List Tok) : Option Nat -> Tok
 | some i => l[i]?.getD ⟨0, ⟨#[]⟩, 0⟩
 | none => ⟨0, ⟨#[]⟩, 0⟩
theorem clR_tok (l : List Tok) : isB (tokO l (plF l 0 0)) sRc = clR l := by
 rw [clR_pl]; cases plF l 0 0 <;> rfl
theorem tdOpens_any (w : World) (lv : Value) (l : List Tok) (d : Int) (h : ToksAt w lv l) (hl : l.length <= 1000000) :
  Calls Tryz.prog 71 #[rowW lv d] w fun e w' => e = .returned (.bool (opR l)) /\ Below w.heap.size w w' := by
 obtain ⟨a, c, rfl, h1, h2, -⟩ := h.len; unfold maxLen at h2; have hb0 : Below w.heap.size w (w.alloc (.cells #[.slice a l.length c, .int .i64 d] 103)) := (Below.refl _ w).alloc (Nat.le_refl _) _; have HC := Lib.hid (Cells.new w #[.slice a l.length c, .int .i64 d] 103); have HB0 := Lib.hid hb0; have HT := Lib.hid h; have kq : IntKind.i64.wrap ((l.length : Int) - 1) = (l.length : Int) - 1 := IntWalk.i64_in _ (by omega)
 clear h hb0; go_enter Tryz.func71, Tryz.ntmps71; go_wp2_with fail; go_loopw [3] (fun v wr => ∃ k : Nat, k <= l.length /\ v = .int .i64 ((k : Int) - 1) /\ Hid (opR (l.take k) = opR l) /\ Below w.heap.size w wr /\ Cells wr w.heap.size #[.slice a l.length c, .int .i64 d] 103) (fun v _ => (intOf v + 1).toNat)
 case atStart => exact ⟨l.length, Nat.le_refl _, by go_num, Lib.hid (by rw [List.take_length]), HB0.out, HC.out⟩
 case round =>
  obtain ⟨k, hk, rfl, HA, hb, hcc⟩ := hrel; have HB := Lib.hid hb; have HCC := Lib.hid hcc; have hcl := hcc.lt
  cases k with
  | zero =>
   clear hb; have hccc0 := hcc.cell 0 _ rfl; have hccf0 := hcc.frozen 0; have hccc1 := hcc.cell 1 _ rfl; have hccf1 := hcc.frozen 1; clear hcc; go_wp2_with fail; go_ret; rw [<- HA.out]; exact ⟨rfl, HB.out⟩
  | succ k =>
   have hkl : k < l.length := by omega
   obtain ⟨b, off, rfl, hbl, hq⟩ := tok_far (HT.out.below hb (Nat.le_refl _)) hkl; obtain ⟨q0, q1, q2⟩ := hq wr (Below.refl _ _); have hS := opR_take hkl; have hk1 : IntKind.i64.wrap ((k : Int) - 1) = (k : Int) - 1 := IntWalk.i64_in _ (by omega)
   have hk2 : ((k + 1 : Nat) : Int) - 1 = (k : Int) := by omega
   rw [hk2]; have HQ := Lib.hid hq; generalize l[k] = t at *; have hC := tdCom_any t wr; have hM := fun W => tdSgn_any t sLc W; obtain ⟨kd, tx, ps⟩ := t; simp only [tokV] at hC hM q0 q1 q2 HQ; generalize comB ⟨kd, tx, ps⟩ = cb at *; generalize isB ⟨kd, tx, ps⟩ sLc = ab at *; have HS := Lib.hid hS; have HX := Lib.hid (HB.out.alloc HB.out.size (tokB ⟨kd, tx, ps⟩)); have HD := Lib.hid (HCC.out.alloc (tokB ⟨kd, tx, ps⟩)); have hccc0 := hcc.cell 0 _ rfl; have hccf0 := hcc.frozen 0; have hccc1 := hcc.cell 1 _ rfl; have hccf1 := hcc.frozen 1; clear hS hb hk2 hq hcc
   cases cb with
   | true =>
    go_wp2_with fail; refine hC.mono ?_; rintro _ _ ⟨rfl, rfl⟩; clear hC hM; go_wp2_with fail; go_roundw
    case rel => exact ⟨k, by omega, rfl, Lib.hid (by rw [<- HA.out, HS.out]; try rfl), HX.out, HD.out⟩
    case measure => simp [intOf] <;> omega
   | false =>
    go_wp2_with fail; refine hC.mono ?_; rintro _ _ ⟨rfl, rfl⟩; clear hC; go_wp2_with fail; refine (hM _).mono ?_; rintro _ _ ⟨rfl, rfl⟩; have HB4 := Lib.hid (HX.out.alloc HX.out.size (tokB ⟨kd, tx, ps⟩)); clear hM; go_wp2_with fail; go_ret; rw [<- HA.out, HS.out]; exact ⟨rfl, HB4.out⟩
theorem tdPlain_any (w : World) (lv : Value) (l : List Tok) (d : Int) (n : Nat) (h : ToksAt w lv l) (hl : l.length <= 1000000) (hn : n <= 10) :
  Calls Tryz.prog 70 #[rowW lv d, .int .i64 (n : Nat)] w fun e w' => e = .returned (tokV (tokO l (plF l 0 n))) /\ Below w.heap.size w w' := by
 obtain ⟨a, c, rfl, h1, h2, -⟩ := h.len; unfold maxLen at h2; have hb0 : Below w.heap.size w (w.alloc (.cells #[.slice a l.length c, .int .i64 d] 103)) := (Below.refl _ w).alloc (Nat.le_refl _) _; have hb1 := hb0.alloc (by simp) (.cells #[.int .i64 0, .string ⟨#[]⟩, .int .i64 0] 63)
 have hc1 := Cells.new (w.alloc (.cells #[.slice a l.length c, .int .i64 d] 103)) #[.int .i64 0, .string ⟨#[]⟩, .int .i64 0] 63; simp only [World.size_alloc] at hc1; have HB0 := Lib.hid (And.intro hb1 hc1); have HT := Lib.hid h; clear h hb0 hb1 hc1; go_enter Tryz.func70, Tryz.ntmps70; go_wp2_with fail; go_loopw [1, 10] (fun nn i wr => ∃ (k m : Nat), k <= l.length /\ i = .int .i64 (k : Int) /\ nn = .int .i64 (m : Int) /\ m <= 10 /\ Hid (plF (l.drop k) k m = plF l 0 n) /\ Below w.heap.size w wr /\ Cells wr (w.heap.size + 1) #[.int .i64 0, .string ⟨#[]⟩, .int .i64 0] 63) (fun _ i _ => l.length - (intOf i).toNat)
 case atStart => exact ⟨0, n, Nat.zero_le _, rfl, rfl, hn, Lib.hid rfl, HB0.out⟩
 case round =>
  obtain ⟨k, m, hk, rfl, rfl, hm, HA, hb, hcc⟩ := hrel; have HB := Lib.hid hb; have HC := Lib.hid hcc; have hcl := hcc.lt
  by_cases hkl : k < l.length
  ·obtain ⟨b, off, rfl, hbl, hq⟩ := tok_far (HT.out.below hb (Nat.le_refl _)) hkl
   obtain ⟨q0, q1, q2⟩ := hq wr (Below.refl _ _); have hX := tokB_below wr l[k]; have hM := tdCom_any l[k] (wr.alloc (tokB l[k])); have H1 := Lib.hid (fun hc => plF_com (n := m) hkl hc); have H2 := Lib.hid (fun hc => plF_hit hkl hc); have H3 := Lib.hid (fun hc n => plF_next (n := n) hkl hc); have H4 : Hid (tokO l (some k) = l[k]) := Lib.hid (by show (l[k]?).getD _ = _; rw [List.getElem?_eq_getElem hkl]; rfl)
   generalize l[k] = t at *; obtain ⟨kd, tx, ps⟩ := t; simp only [tokV] at hM q0 q1 q2; generalize comB ⟨kd, tx, ps⟩ = cb at *; have HX := Lib.hid ((HB.out.trans (hX.mono HB.out.size)).alloc (by have := HB.out.size; simp; omega) (tokB ⟨kd, tx, ps⟩))
   have HD := Lib.hid ((HC.out.alloc (tokB ⟨kd, tx, ps⟩)).alloc (tokB ⟨kd, tx, ps⟩)); have hccc0 := hcc.cell 0 _ rfl; have hccf0 := hcc.frozen 0; have hccc1 := hcc.cell 1 _ rfl; have hccf1 := hcc.frozen 1; have hccc2 := hcc.cell 2 _ rfl; have hccf2 := hcc.frozen 2; clear hX hb hq hcc
   cases cb with
   | true =>
    go_wp2_with fail; refine hM.mono ?_; rintro _ _ ⟨rfl, rfl⟩; clear hM; go_wp2_with fail; go_roundw
    case rel => exact ⟨k + 1, m, hkl, by go_num, rfl, hm, Lib.hid (by rw [<- HA.out, H1.out (by trivial)]), HX.out, HD.out⟩
    case measure => simp [intOf] <;> omega
   | false =>
    go_wp2_with fail; refine hM.mono ?_; rintro _ _ ⟨rfl, rfl⟩; clear hM
    cases m with
    | zero =>
     have fz0 := HD.out.frozen 0; have fz1 := HD.out.frozen 1; have fz2 := HD.out.frozen 2; have cz0 := HD.out.cell 0 _ rfl; have cz1 := HD.out.cell 1 _ rfl; have cz2 := HD.out.cell 2 _ rfl; go_wp2_with fail; have hq := (((HD.out.setI 0 (.int .i64 kd)).setI 1 (.string tx)).setI 2 (.int .i64 ps)); have zz0 := hq.cell 0 _ rfl; have zz1 := hq.cell 1 _ rfl; have zz2 := hq.cell 2 _ rfl; refine bodyPost_ret (v := .agg #[.int .i64 kd, .string tx, .int .i64 ps]) (by simp [results, Tryz.results70, go_sem, zz0, zz1, zz2]) rfl ?_
     rw [<- HA.out, H2.out (by trivial), H4.out]
     exact ⟨rfl, ((HX.out.setCell (by show w.heap.size <= w.heap.size + 1; omega) _).setCell (by show w.heap.size <= w.heap.size + 1; omega) _).setCell (by show w.heap.size <= w.heap.size + 1; omega) _⟩
    | succ m =>
     have hm0 : (((m + 1 : Nat) : Int) == 0) = false := by simp; omega
     have hm1 : ((m + 1 : Nat) : Int) - 1 = (m : Int) := by omega
     go_wp2_with fail; go_roundw
     case rel => exact ⟨k + 1, m, hkl, by go_num, by go_num, by omega, Lib.hid (by rw [<- HA.out, H3.out (by trivial)]), HX.out, HD.out⟩
     case measure => simp [intOf] <;> omega
  ·obtain rfl : k = l.length := by omega
   have hE := plF_none (l := l) (n := m) (Nat.le_refl _); have HE := Lib.hid hE; have hccc0 := hcc.cell 0 _ rfl; have hccf0 := hcc.frozen 0; have hccc1 := hcc.cell 1 _ rfl; have hccf1 := hcc.frozen 1; have hccc2 := hcc.cell 2 _ rfl; have hccf2 := hcc.frozen 2; clear hE hb hcc; go_wp2_with fail; have hq := (((HC.out.setI 0 (.int .i64 0)).setI 1 (.string ⟨#[]⟩)).setI 2 (.int .i64 0)); have zz0 := hq.cell 0 _ rfl; have zz1 := hq.cell 1 _ rfl; have zz2 := hq.cell 2 _ rfl; refine bodyPost_ret (v := .agg #[.int .i64 0, .string ⟨#[]⟩, .int .i64 0]) (by simp [results, Tryz.results70, go_sem, zz0, zz1, zz2]) rfl ?_
   rw [<- HA.out, HE.out]; exact ⟨rfl, ((HB.out.setCell (by show w.heap.size <= w.heap.size + 1; omega) _).setCell (by show w.heap.size <= w.heap.size + 1; omega) _).setCell (by show w.heap.size <= w.heap.size + 1; omega) _⟩
theorem eqR_hit {l : List Tok} {k : Nat} (h : plF l 0 1 = some k) (hk : k < l.length) : eqR l = if isB l[k] sEq then some k else none := by
 unfold eqR; rw [h]; simp only [List.getElem?_eq_getElem hk, Option.getD_some]
theorem eqR_none {l : List Tok} (h : plF l 0 1 = none) : eqR l = none := by
 unfold eqR; rw [h]
theorem tdEq_any (w : World) (lv : Value) (l : List Tok) (d : Int) (h : ToksAt w lv l) (hl : l.length <= 1000000) :
  Calls Tryz.prog 65 #[rowW lv d] w fun e w' => e = .returned (.int .i64 (retO (eqR l))) /\ Below w.heap.size w w' := by
 obtain ⟨a, c, rfl, h1, h2, -⟩ := h.len; unfold maxLen at h2; have hb0 : Below w.heap.size w (w.alloc (.cells #[.slice a l.length c, .int .i64 d] 103)) := (Below.refl _ w).alloc (Nat.le_refl _) _; have HB0 := Lib.hid hb0; have HT := Lib.hid h; clear h hb0; go_enter Tryz.func65, Tryz.ntmps65; go_wp2_with fail; go_loopw [3, 9] (fun nn i wr => ∃ (k m : Nat), k <= l.length /\ i = .int .i64 (k : Int) /\ nn = .int .i64 (m : Int) /\ m <= 1 /\ Hid (plF (l.drop k) k (1 - m) = plF l 0 1) /\ Below w.heap.size w wr) (fun _ i _ => l.length - (intOf i).toNat)
 case atStart => exact ⟨0, 0, Nat.zero_le _, rfl, rfl, by omega, Lib.hid rfl, HB0.out⟩
 case round =>
  obtain ⟨k, m, hk, rfl, rfl, hm, HA, hb⟩ := hrel; have HB := Lib.hid hb
  by_cases hkl : k < l.length
  ·obtain ⟨b, off, rfl, hbl, hq⟩ := tok_far (HT.out.below hb (Nat.le_refl _)) hkl
   obtain ⟨q0, q1, q2⟩ := hq wr (Below.refl _ _); have hX := tokB_below wr l[k]; have hC := tdCom_any l[k] (wr.alloc (tokB l[k])); have hS := fun W => tdSgn_any l[k] sEq W; have H1 := Lib.hid (fun hc n => plF_com (n := n) hkl hc); have H2 := Lib.hid (fun hc => plF_hit hkl hc); have H3 := Lib.hid (fun hc n => plF_next (n := n) hkl hc); have H4 := Lib.hid (fun h => eqR_hit (l := l) (k := k) h hkl); generalize l[k] = t at *; obtain ⟨kd, tx, ps⟩ := t; simp only [tokV] at hC hS q0 q1 q2; generalize comB ⟨kd, tx, ps⟩ = cb at *; generalize isB ⟨kd, tx, ps⟩ sEq = sb at *; have HX := Lib.hid ((HB.out.trans (hX.mono HB.out.size)).alloc (by have := HB.out.size; simp; omega) (tokB ⟨kd, tx, ps⟩))
   have HX2 := Lib.hid (HX.out.alloc HX.out.size (tokB ⟨kd, tx, ps⟩)); clear hX hb hq
   cases cb with
   | true =>
    go_wp2_with fail; refine hC.mono ?_; rintro _ _ ⟨rfl, rfl⟩; clear hC hS; go_wp2_with fail; go_roundw
    case rel => exact ⟨k + 1, m, hkl, by go_num, rfl, hm, Lib.hid (by rw [<- HA.out, H1.out (by trivial)]), HX.out⟩
    case measure => simp [intOf] <;> omega
   | false =>
    go_wp2_with fail; refine hC.mono ?_; rintro _ _ ⟨rfl, rfl⟩; clear hC
    by_cases hm1 : m = 1
    ·subst hm1
     have HE : Hid (eqR l = if sb then some k else none) := Lib.hid (H4.out (by rw [<- HA.out]; exact H2.out (by trivial)))
     go_wp2_with fail; refine (hS _).mono ?_; rintro _ _ ⟨rfl, rfl⟩; clear hS; cases sb
     all_goals
      go_wp2_with fail; go_ret; rw [HE.out]; exact ⟨rfl, HX2.out⟩
    ·obtain rfl : m = 0 := by omega
     go_wp2_with fail; go_roundw
     case rel => exact ⟨k + 1, 1, hkl, by go_num, by go_num, by omega, Lib.hid (by rw [<- HA.out, H3.out (by trivial)]), HX.out⟩
     case measure => simp [intOf] <;> omega
  ·obtain rfl : k = l.length := by omega
   have hE := plF_none (l := l) (n := 1 - m) (Nat.le_refl _); have HE : Hid (eqR l = none) := Lib.hid (eqR_none (by rw [<- HA.out, hE]))
   clear hE hb; go_wp2_with fail; go_ret; rw [HE.out]; exact ⟨rfl, HB.out⟩
def spS (n : Nat) : ByteArray := strL (spB n)
theorem spS_size (n : Nat) : (spS n).size = n := by unfold spS spB; show (List.replicate n _).toArray.size = n; simp
theorem repeatL_sp (n : Nat) : Lib.repeatL [32] n = spB n := by
 unfold spB
 induction n with
 | zero => rfl
 | succ n ih => rw [Lib.repeatL, ih, List.replicate_succ]; rfl
theorem sp_any (n : Nat) (w : World) (hn : n <= 1000000000) : Calls Tryz.prog 111 #[.string ⟨#[32]⟩, .int .i64 n] w fun e w' => e = .returned (.string (spS n)) /\ Below w.heap.size w w' := by
 have := Go.Proofs.Tryz.strings_Repeat ⟨#[32]⟩ n w (by omega) (by show 1 * n <= _; omega)
 rw [show (⟨#[32]⟩ : ByteArray).data.toList = [32] from rfl, repeatL_sp] at this; exact this
theorem inB2 : BldIn 69 2 0 := ⟨by decide, by kernel_rfl, by decide⟩
def BW (B : Nat) (w : World) (g : Nat) (l : Bs) : Prop := B <= g /\ ∃ cs, cs.size = 2 /\ Bld 69 B w g 0 cs l
theorem BW.lt {B g : Nat} {w : World} {l : Bs} (h : BW B w g l) : g < w.heap.size := by
 obtain ⟨-, cs, -, hb⟩ := h; exact hb.cells.lt
structure WrP (B g : Nat) (w w' : World) : Prop where
 b : Below B w w'
 s : Beside 5 g w w'
theorem WrP.refl (B g : Nat) (w : World) : WrP B g w w := ⟨Below.refl _ _, Beside.refl⟩
theorem WrP.trans {B g : Nat} {w w' w'' : World} (h : WrP B g w w') (h2 : WrP B g w' w'') : WrP B g w w'' := ⟨h.b.trans h2.b, h.s.trans h2.s⟩
theorem WrP.of {B g : Nat} {w w' : World} (h : Below w.heap.size w w') (hB : B <= w.heap.size) : WrP B g w w' := ⟨h.mono hB, h.size, fun k o _ ho _ => (h.block k (Array.getElem?_eq_some_iff.1 ho).1).trans ho⟩
theorem WrP.cells {B g : Nat} {w w' : World} (h : WrP B g w w') {k : Nat} {cs : Array Value} {t : TypeId} (hc : Cells w k cs t) (hk : k ≠ g) (ht : t ≠ 5) : Cells w' k cs t := h.s.cells hc hk ht
theorem BW.below {B g : Nat} {w w' : World} {l : Bs} (h : BW B w g l) (hb : Below w.heap.size w w') : BW B w' g l := by
 obtain ⟨h1, cs, h2, hc, ha, v, hv, ho⟩ := h; exact ⟨h1, cs, h2, hc.below hb hc.lt, ha, v, hv, ho.below hb (Nat.le_refl _)⟩
theorem BW.write {B g : Nat} {w : World} {l : Bs} (h : BW B w g l) (s : ByteArray) (hl : l.length + s.size <= 1000000000) :
  Calls Tryz.prog 113 #[.pointer (some ⟨g, 0, none⟩), .string s] w fun e w' => e = .returned (.tuple #[.int .i64 s.size, .nilIface]) /\ BW B w' g (l ++ s.data.toList) /\ WrP B g w w' := by
 obtain ⟨h1, cs, h2, hb⟩ := h; refine (WriteString_any w s hb (by rw [h2]; exact inB2) h1 hl).mono ?_
 rintro e w' ⟨rfl, cs', h3, h4, h5, h6⟩; exact ⟨rfl, ⟨h1, cs', h4.1.trans h2, h3⟩, h5, h6⟩
theorem BW.ne {B g k : Nat} {w : World} {l : Bs} {cs : Array Value} {t : TypeId} (h : BW B w g l) (hc : Cells w k cs t) (ht : t ≠ 69) : k ≠ g := by
 rintro rfl; obtain ⟨-, cs2, -, hb⟩ := h; have h1 : w.heap[k]? = some (.cells cs t (0, 0)) := hc; have h2 : w.heap[k]? = some (.cells cs2 69 (0, 0)) := hb.cells; rw [h1] at h2; simp only [Option.some.injEq, Obj.cells.injEq] at h2; exact ht h2.2.1
def catS (ps : List ByteArray) : Bs := ps.flatMap (fun s => s.data.toList)
theorem catS_take {ps : List ByteArray} {k : Nat} (hk : k < ps.length) : catS (ps.take (k + 1)) = catS (ps.take k) ++ ps[k].data.toList := by
 unfold catS; rw [List.take_succ_eq_append_getElem hk, List.flatMap_append]; simp
theorem catS_le (ps : List ByteArray) (k : Nat) : (catS (ps.take k)).length <= (catS ps).length := by
 have : catS ps = catS (ps.take k) ++ catS (ps.drop k) := by unfold catS; rw [<- List.flatMap_append, List.take_append_drop]
 rw [this, List.length_append]; omega
theorem put_any {B g b : Nat} {w : World} {l : Bs} (ps : List ByteArray) (h : BW B w g l) (hp : Cells w b (ps.map Value.string).toArray 9) (hl : l.length + (catS ps).length <= 1000000000) (hn : ps.length <= 10) :
  Calls Tryz.prog 66 #[.pointer (some ⟨g, 0, none⟩), .slice (some ⟨b, 0, none⟩) ps.length ps.length] w fun e w' => e = .returned (.tuple #[]) /\ BW B w' g (l ++ catS ps) /\ WrP B g w w' := by
 have hbg := h.ne hp (by decide)
 have HP := Lib.hid (And.intro h hp); clear h hp; go_enter Tryz.func66, Tryz.ntmps66; go_wp2_with fail; go_loopw [8] (fun i wr => ∃ k : Nat, k <= ps.length /\ i = .int .i64 (k : Int) /\ BW B wr g (l ++ catS (ps.take k)) /\ WrP B g w wr) (fun i _ => ps.length - (intOf i).toNat)
 case atStart => exact ⟨0, Nat.zero_le _, rfl, by rw [List.take_zero]; simpa [catS] using HP.out.1, WrP.refl _ _ _⟩
 case round =>
  obtain ⟨k, hk, rfl, hW, hR⟩ := hrel
  by_cases hkl : k < ps.length
  ·have hc := hR.cells HP.out.2 hbg (by decide)
   have hlt := hc.lt; have q0 := hc.cell k (.string ps[k]) (by simp [hkl])
   have hT := catS_take hkl; have hl2 := catS_le ps (k + 1); rw [hT] at hl2
   have hC := hW.write ps[k] (by
    have e : (ps[k].data.toList).length = ps[k].size := size_list2 _; rw [List.length_append] at hl2 ⊢
    omega)
   have HT := Lib.hid hT; have HR := Lib.hid hR; generalize ps[k] = s at *; clear hc hW hR hT hl2; go_wp2_with fail; refine hC.mono ?_; rintro _ w3 ⟨rfl, h3, hr3⟩; have HN : Hid (BW B w3 g (l ++ catS (ps.take (k + 1))) /\ WrP B g w w3) := Lib.hid ⟨by rw [HT.out, <- List.append_assoc]; exact h3, HR.out.trans hr3⟩
   clear hC h3 hr3; go_wp2_with fail; go_roundw
   case rel => exact ⟨k + 1, hkl, by go_num, HN.out.1, HN.out.2⟩
   case measure => simp [intOf]; omega
  ·obtain rfl : k = ps.length := by omega
   rw [List.take_length] at hW; have HN := Lib.hid (And.intro hW hR); clear hW hR; go_wp2_with fail; refine bodyPost_end (v := .tuple #[]) (by simp [results, Tryz.results66, go_sem]) rfl ?_
   exact ⟨rfl, HN.out.1, HN.out.2⟩
theorem wf_nat {k : Nat} (h : k <= 1000000000) : (Lit.int .i64 (k : Int)).wf = true := by
 rw [Lit.wf, Bool.and_eq_true, decide_eq_true_eq, decide_eq_true_eq]; have e1 : IntKind.i64.min = -9223372036854775808 := rfl; have e2 : IntKind.i64.max = 9223372036854775807 := rfl; omega
theorem gapN_le (l : List Tok) (i : Nat) : gapN l i <= 1 := by
 cases i with
 | zero => exact Nat.zero_le _
 | succ i =>
  rw [gapN]; split
  ·unfold gapT
   repeat' split
   all_goals omega
  ·exact Nat.zero_le _
theorem BW.start (w : World) (B : Nat) (hB : B <= w.heap.size) : BW B (w.alloc (.cells #[.pointer none, .slice none 0 0] 69)) w.heap.size [] :=
 ⟨hB, _, rfl, Cells.new _ _ _, .inl rfl, _, rfl, OwnOf.nil⟩
theorem partB_le {row : List Tok} {ind fr k en : Nat} (h : k <= en) : (partB row ind fr k).length <= (partB row ind fr en).length := by
 unfold partB
 have e : ((pcsR row ind).take k).drop fr = (((pcsR row ind).take en).drop fr).take (k - fr) := by
  rw [<- List.drop_take, List.take_take]
  congr 2
  omega
 rw [e]
 conv => rhs; rw [<- List.take_append_drop (k - fr) (((pcsR row ind).take en).drop fr), catQ_app, List.length_append]
 omega
theorem tdPart_any (w : World) (lv : Value) (l : List Tok) (d : Int) (fr en : Nat) (h : ToksAt w lv l) (hd : 0 <= d /\ d <= 1000000) (hfe : fr <= en) (hen : en <= l.length) (hl : l.length <= 1000000) (hsz : (partB l (2 * d).toNat fr en).length <= 500000000) :
  Calls Tryz.prog 67 #[rowW lv d, .int .i64 (fr : Nat), .int .i64 (en : Nat)] w fun e w' => e = .returned (.string (strL (partB l (2 * d).toNat fr en))) /\ Below w.heap.size w w' := by
 obtain ⟨a, c, rfl, h1, h2, -⟩ := h.len; unfold maxLen at h2; have hb0 : Below w.heap.size w (w.alloc (.cells #[.slice a l.length c, .int .i64 d] 103)) := (Below.refl _ w).alloc (Nat.le_refl _) _; have hb1 := hb0.alloc (by simp) (.cells #[.pointer none, .slice none 0 0] 69)
 have hc0 := (Cells.new w #[.slice a l.length c, .int .i64 d] 103).alloc (.cells #[.pointer none, .slice none 0 0] 69); have hw0 := BW.start (w.alloc (.cells #[.slice a l.length c, .int .i64 d] 103)) w.heap.size (by simp)
 simp only [World.size_alloc] at hw0; have H0 := Lib.hid (And.intro hb1 (And.intro hc0 hw0)); have HT := Lib.hid h; have k2 : IntKind.i64.wrap (2 * d) = 2 * d := IntWalk.i64_in _ (by omega)
 have k3 : (((2 * d).toNat : Nat) : Int) = 2 * d := by omega
 have K3 := Lib.hid k3; have HSZ := Lib.hid hsz; clear h hb0 hb1 hc0 hw0 k3 hsz; go_enter Tryz.func67, Tryz.ntmps67; go_wp2_with fail; go_loopw [8] (fun i wr => ∃ k : Nat, fr <= k /\ k <= en /\ i = .int .i64 (k : Int) /\ BW w.heap.size wr (w.heap.size + 1) (partB l (2 * d).toNat fr k) /\ Cells wr w.heap.size #[.slice a l.length c, .int .i64 d] 103 /\ Below w.heap.size w wr) (fun i _ => en - (intOf i).toNat)
 case atStart => exact ⟨fr, Nat.le_refl _, hfe, rfl, by rw [partB_nil]; exact H0.out.2.2, H0.out.2.1, H0.out.1⟩
 case round =>
  clear H0; obtain ⟨k, hk0, hk, rfl, hW, hcc, hb⟩ := hrel; have HW := Lib.hid (And.intro hW (And.intro hcc hb)); have hgl := hW.lt
  by_cases hkl : k < en
  ·obtain ⟨b, off, rfl, hbl, hq⟩ := tok_far HT.out (k := k) (by omega)
   have hG := lkGap_any wr _ l (HT.out.below hb (Nat.le_refl _)) hl (k : Int) (wf_nat (by omega))
   rw [Int.toNat_natCast] at hG; have hgo := partB_go (row := l) (ind := (2 * d).toNat) hk0 (show k < l.length by omega)
   have hle := partB_le (row := l) (ind := (2 * d).toNat) (fr := fr) (show k + 1 <= en by omega)
   have hga : gapAt l (2 * d).toNat k = if k = 0 then (2 * d).toNat else gapN l k := rfl; have hgn := gapN_le l k; rw [hgo] at hle; have HG := Lib.hid (And.intro hgo (And.intro hle hga)); clear hgo hle hga hb hW; have hrl := hcc.lt; have hccc0 := hcc.cell 0 _ rfl; have hccf0 := hcc.frozen 0; have hccc1 := hcc.cell 1 _ rfl; have hccf1 := hcc.frozen 1; clear hcc; go_wp2_with fail; refine hG.mono ?_; rintro _ w4 ⟨rfl, hb4⟩; have h4 : Hid (BW w.heap.size w4 (w.heap.size + 1) (partB l (2 * d).toNat fr k) /\ Cells w4 w.heap.size #[.slice (some ⟨b, off, none⟩) l.length c, .int .i64 d] 103 /\ Below w.heap.size w w4) := Lib.hid ⟨HW.out.1.below hb4, HW.out.2.1.below hb4 HW.out.2.1.lt, below_more HW.out.2.2 hb4⟩; have HQ : Hid (∀ W, Below w.heap.size w W -> W.cell? ⟨b, off + k * 3 + 1, none⟩ = some (.string l[k].text)) := Lib.hid fun W hW => (hq W hW).2.1; have q1 := HQ.out w4 h4.out.2.2; have hbl4 : b < w4.heap.size := Nat.lt_of_lt_of_le hbl h4.out.2.2.size; have i1 : (0 : Int) <= (k : Int) := by omega
   have i2 : (k : Int) < (l.length : Int) := by omega
   have hcc := h4.out.2.1; have hrl := hcc.lt; have htx : Hid (txB l[k] = l[k].text.data.toList) := Lib.hid rfl; generalize l[k].text = tx at *; clear hG hb4 hq hccc0 hccc1 hccf0 hccf1 HW; have hccc0 := hcc.cell 0 _ rfl; have hccf0 := hcc.frozen 0; have hccc1 := hcc.cell 1 _ rfl; have hccf1 := hcc.frozen 1; clear hcc
   by_cases hk00 : k = 0
   ·have e0 : ((k : Int) == 0) = true := by simpa using hk00
    obtain ⟨n, hn⟩ : ∃ n, n = (2 * d).toNat := ⟨_, rfl⟩; have hgn : n <= 2000000 := by omega
    have k4 : IntKind.i64.wrap (2 * d) = (n : Int) := by rw [k2]; omega
    have HN : Hid (gapAt l (2 * d).toNat k = n) := Lib.hid (by rw [HG.out.2.2, if_pos hk00, hn])
    clear hn hk00 k2; go_wp2_with fail; have hRep := fun W => sp_any n W (by omega)
    have HSP : Hid ((spS n).data.toList = spB n /\ (spS n).size = n) := Lib.hid ⟨rfl, spS_size n⟩; generalize spS n = sp at *; have HTX := Lib.hid q1
    have H5 : Hid (∀ W, Below w4.drew.heap.size w4.drew W -> BW w.heap.size W (w.heap.size + 1) (partB l (2 * d).toNat fr k) /\ Cells W w.heap.size #[.slice (some ⟨b, off, none⟩) l.length c, .int .i64 d] 103 /\ Below w.heap.size w W /\ W.cell? ⟨b, off + k * 3 + 1, none⟩ = some (.string tx)) :=
     Lib.hid fun W hW => by
      have hW' : Below w4.heap.size w4 W := ((Below.refl _ w4).drew).trans hW; exact ⟨h4.out.1.below hW', h4.out.2.1.below hW' h4.out.2.1.lt, below_more h4.out.2.2 hW', (hW'.cell (p := ⟨b, off + k * 3 + 1, none⟩) hbl4).trans HTX.out⟩
    have hPut : ∀ W, BW w.heap.size W (w.heap.size + 1) (partB l (2 * d).toNat fr k) /\ Cells W w.heap.size #[.slice (some ⟨b, off, none⟩) l.length c, .int .i64 d] 103 /\ Below w.heap.size w W /\ W.cell? ⟨b, off + k * 3 + 1, none⟩ = some (.string tx) ->
      Calls Tryz.prog 66 #[.pointer (some ⟨w.heap.size + 1, 0, none⟩), .slice (some ⟨W.heap.size, 0, none⟩) 2 2] (W.alloc (.cells #[.string sp, .string tx] 9)) fun e w' => e = .returned (.tuple #[]) /\ BW w.heap.size w' (w.heap.size + 1) (partB l (2 * d).toNat fr (k + 1)) /\ Cells w' w.heap.size #[.slice (some ⟨b, off, none⟩) l.length c, .int .i64 d] 103 /\ Below w.heap.size w w' := fun W ⟨g1, g2, g3, g4⟩ => by
     have hA : Below W.heap.size W (W.alloc (.cells #[.string sp, .string tx] 9)) := (Below.refl _ W).alloc (Nat.le_refl _) _; have hcat : catS [sp, tx] = spB n ++ tx.data.toList := by simp [catS, HSP.out.1]
     have hle := HG.out.2.1; have hsz := HSZ.out; rw [HN.out] at hle; refine (put_any [sp, tx] (g1.below hA) (Cells.new W #[.string sp, .string tx] 9) (by rw [hcat]; rw [htx.out, List.length_append] at hle; omega) (by simp)).mono ?_
     rintro e w' ⟨rfl, h5, h6⟩; refine ⟨rfl, ?_, h6.cells (g2.below hA g2.lt) (by omega) (by decide), (g3.trans (hA.mono g3.size)).trans h6.b⟩
     rw [HG.out.1, HN.out, htx.out, <- hcat]; exact h5
    clear hgn
    go_region_held3 (fun w' => w'.cell? ⟨w.heap.size, 0, none⟩ = some (.slice (some ⟨b, off, none⟩) l.length c) /\ w'.cell? ⟨b, off + k * 3 + 1, none⟩ = some (.string tx)) (first | (with_reducible exact ⟨hccc0, q1⟩) | (with_reducible exact ⟨g60, g61⟩) | (with_reducible exact ⟨g50, g51⟩) | go_keep) (first
     | (go_at_call 66; (refine (hPut _ hx5).mono ?_); rintro _ w6 ⟨rfl, h6⟩; have g60 := h6.2.1.cell 0 _ rfl; have g61 := HQ.out w6 h6.2.2)
     | (go_at_call 111; (with_reducible refine (hRep _).mono ?_); rintro _ w5 ⟨rfl, hb5⟩; have hx5 := H5.out w5 hb5; have g50 := hx5.2.1.cell 0 _ rfl; have g51 := hx5.2.2.2; have hz5 := hx5.2.1.lt))
    all_goals
     have HN2 := Lib.hid h6; clear h6 H5 hPut hRep HSP HTX h4 htx HN HG q1 hccc0 hccc1 hccf0 hccf1; go_wp2_with fail; go_roundw
     case rel => exact ⟨k + 1, by omega, hkl, by go_num, HN2.out⟩
     case measure => simp [intOf]; omega
   ·have e0 : ((k : Int) == 0) = false := by simpa using hk00
    obtain ⟨n, hn⟩ : ∃ n, n = gapN l k := ⟨_, rfl⟩; rw [<- hn] at hgn ⊢; have HN : Hid (gapAt l (2 * d).toNat k = n) := Lib.hid (by rw [HG.out.2.2, if_neg hk00, hn])
    clear hn hk00; go_wp2_with fail; have hRep := fun W => sp_any n W (by omega)
    have HSP : Hid ((spS n).data.toList = spB n /\ (spS n).size = n) := Lib.hid ⟨rfl, spS_size n⟩; generalize spS n = sp at *; have HTX := Lib.hid q1
    have H5 : Hid (∀ W, Below w4.drew.heap.size w4.drew W -> BW w.heap.size W (w.heap.size + 1) (partB l (2 * d).toNat fr k) /\ Cells W w.heap.size #[.slice (some ⟨b, off, none⟩) l.length c, .int .i64 d] 103 /\ Below w.heap.size w W /\ W.cell? ⟨b, off + k * 3 + 1, none⟩ = some (.string tx)) :=
     Lib.hid fun W hW => by
      have hW' : Below w4.heap.size w4 W := ((Below.refl _ w4).drew).trans hW; exact ⟨h4.out.1.below hW', h4.out.2.1.below hW' h4.out.2.1.lt, below_more h4.out.2.2 hW', (hW'.cell (p := ⟨b, off + k * 3 + 1, none⟩) hbl4).trans HTX.out⟩
    have hPut : ∀ W, BW w.heap.size W (w.heap.size + 1) (partB l (2 * d).toNat fr k) /\ Cells W w.heap.size #[.slice (some ⟨b, off, none⟩) l.length c, .int .i64 d] 103 /\ Below w.heap.size w W /\ W.cell? ⟨b, off + k * 3 + 1, none⟩ = some (.string tx) ->
      Calls Tryz.prog 66 #[.pointer (some ⟨w.heap.size + 1, 0, none⟩), .slice (some ⟨W.heap.size, 0, none⟩) 2 2] (W.alloc (.cells #[.string sp, .string tx] 9)) fun e w' => e = .returned (.tuple #[]) /\ BW w.heap.size w' (w.heap.size + 1) (partB l (2 * d).toNat fr (k + 1)) /\ Cells w' w.heap.size #[.slice (some ⟨b, off, none⟩) l.length c, .int .i64 d] 103 /\ Below w.heap.size w w' := fun W ⟨g1, g2, g3, g4⟩ => by
     have hA : Below W.heap.size W (W.alloc (.cells #[.string sp, .string tx] 9)) := (Below.refl _ W).alloc (Nat.le_refl _) _; have hcat : catS [sp, tx] = spB n ++ tx.data.toList := by simp [catS, HSP.out.1]
     have hle := HG.out.2.1; have hsz := HSZ.out; rw [HN.out] at hle; refine (put_any [sp, tx] (g1.below hA) (Cells.new W #[.string sp, .string tx] 9) (by rw [hcat]; rw [htx.out, List.length_append] at hle; omega) (by simp)).mono ?_
     rintro e w' ⟨rfl, h5, h6⟩; refine ⟨rfl, ?_, h6.cells (g2.below hA g2.lt) (by omega) (by decide), (g3.trans (hA.mono g3.size)).trans h6.b⟩
     rw [HG.out.1, HN.out, htx.out, <- hcat]; exact h5
    clear hgn
    go_region_held3 (fun w' => w'.cell? ⟨w.heap.size, 0, none⟩ = some (.slice (some ⟨b, off, none⟩) l.length c) /\ w'.cell? ⟨b, off + k * 3 + 1, none⟩ = some (.string tx)) (first | (with_reducible exact ⟨hccc0, q1⟩) | (with_reducible exact ⟨g60, g61⟩) | (with_reducible exact ⟨g50, g51⟩) | go_keep) (first
     | (go_at_call 66; (refine (hPut _ hx5).mono ?_); rintro _ w6 ⟨rfl, h6⟩; have g60 := h6.2.1.cell 0 _ rfl; have g61 := HQ.out w6 h6.2.2)
     | (go_at_call 111; (with_reducible refine (hRep _).mono ?_); rintro _ w5 ⟨rfl, hb5⟩; have hx5 := H5.out w5 hb5; have g50 := hx5.2.1.cell 0 _ rfl; have g51 := hx5.2.2.2; have hz5 := hx5.2.1.lt))
    all_goals
     have HN2 := Lib.hid h6; clear h6 H5 hPut hRep HSP HTX h4 htx HN HG q1 hccc0 hccc1 hccf0 hccf1; go_wp2_with fail; go_roundw
     case rel => exact ⟨k + 1, by omega, hkl, by go_num, HN2.out⟩
     case measure => simp [intOf]; omega
  ·obtain rfl : k = en := by omega
   obtain ⟨-, cs, h2, hB⟩ := HW.out.1; have hS := String_any wr hB (by omega) (by have := HSZ.out; omega)
   have HB := Lib.hid hb; clear hB hW hcc hb; go_wp2_with fail; refine hS.mono ?_; rintro _ w5 ⟨rfl, hb5, -⟩; have HB5 := Lib.hid (HB.out.trans hb5); clear hS hb5; go_wp2_with fail; go_ret; exact ⟨rfl, HB5.out⟩
structure Opn where
 x : Itm
 cs : List Value
 iv : Value
def Inn (B g : Nat) (rb : Option Nat) (v : Value) (C : List Opn) (b : Nat) : Prop := B <= b /\ b ≠ g /\ rb ≠ some b /\ v.ownBlock ≠ some b /\ ∀ c ∈ C, c.iv.ownBlock ≠ some b
def OneAt (P : Nat -> Prop) (B : Nat) (w : World) (c : Opn) : Prop :=
 ∃ (b : Bool) (n : ByteArray) (e : Exp) (ls : List ByteArray) (vo vt : ByteArray) (vk lv : Value) (L : List (Itm × List Value)), c.x = .mk b n e ls (L.map (·.1)) /\ c.cs = [.bool b, .string n, .string vo, .string vt, vk, lv, c.iv] /\
  ExpIn P w e [.string vo, .string vt, vk] /\ RowIn P w lv ls /\ w.ownsRow B 54 7 c.iv L.length (L.flatMap (·.2)) /\ ∀ s ∈ L, ItmIn P w s.1 s.2
structure Apart (g : Nat) (rb : Option Nat) (v : Value) (C : List Opn) : Prop where
 vg : v.ownBlock ≠ some g
 vr : ∀ b, v.ownBlock = some b -> rb ≠ some b
 rg : rb ≠ some g
 one : ∀ c ∈ C, ∀ b, c.iv.ownBlock = some b -> v.ownBlock ≠ some b /\ b ≠ g /\ rb ≠ some b
 two : C.Pairwise (fun c d => ∀ b, c.iv.ownBlock = some b -> d.iv.ownBlock ≠ some b)
structure StC (B g : Nat) (rb : Option Nat) (w : World) (v : Value) (C : List Opn) : Prop where
 gl : g < w.heap.size
 rl : ∀ b, rb = some b -> b < w.heap.size
 row : w.ownsRow B 54 7 v C.length (C.flatMap (·.cs))
 apart : Apart g rb v C
 all : ∀ c ∈ C, OneAt (Inn B g rb v C) B w c
def StAt (B g : Nat) (rb : Option Nat) (w : World) (v : Value) (st : List Itm) : Prop := ∃ C, st = C.map (·.x) /\ StC B g rb w v C
theorem own_moved {base size n : Nat} {e : TypeId} {w w' : World} {v : Value} {xs : List Value} (h : w.ownsRow base e size v n xs) (hc : ∀ k, v.ownBlock = some k -> w'.heap[k]? = w.heap[k]?) : w'.ownsRow base e size v n xs := by
 obtain ⟨h1, h2⟩ := h; refine ⟨h1, ?_⟩; rcases h2 with h2 | ⟨g, cap, cur, rfl, hg0, hg, r⟩
 ·exact .inl h2
 ·exact .inr ⟨g, cap, cur, rfl, hg0, by rw [hc g rfl]; exact hg, r⟩
theorem OneAt.move {P Q : Nat -> Prop} {B : Nat} {w w' : World} {c : Opn} (hs : w.heap.size <= w'.heap.size) (hb : ∀ k, P k -> k < w.heap.size -> w'.heap[k]? = w.heap[k]?) (hq : ∀ k, P k -> k < w.heap.size -> Q k)
  (hi : ∀ k, c.iv.ownBlock = some k -> w'.heap[k]? = w.heap[k]?) (h : OneAt P B w c) : OneAt Q B w' c := by
 obtain ⟨b, n, e, ls, vo, vt, vk, lv, L, h1, h2, h3, h4, h5, h6⟩ := h; exact ⟨b, n, e, ls, vo, vt, vk, lv, L, h1, h2, ExpIn.move hs hb hq e _ h3, h4.move hs hb hq, own_moved h5 hi, fun s hm => ItmIn.move hs hb hq _ _ (h6 s hm)⟩
theorem own_same {base : Nat} {e : TypeId} {w : World} {v : Value} {n m : Nat} {xs ys : List Value} (h1 : w.ownsRow base e 7 v n xs) (h2 : w.ownsRow base e 7 v m ys) : n = m /\ xs = ys := by
 obtain ⟨a1, a2⟩ := h1; obtain ⟨b1, b2⟩ := h2; rcases a2 with ⟨rfl, rfl⟩ | ⟨g, cap, cur, rfl, -, hg, -, -, -, r⟩
 ·rcases b2 with ⟨-, rfl⟩ | ⟨g', cap', cur', he, -⟩
  ·exact ⟨rfl, (List.eq_nil_of_length_eq_zero (by simpa using a1)).trans (List.eq_nil_of_length_eq_zero (by simpa using b1)).symm⟩
  ·cases he
 ·rcases b2 with ⟨he, -⟩ | ⟨g', cap', cur', he, -, hg', -, -, -, r'⟩
  ·cases he
  ·cases he
   rw [hg] at hg'; cases hg'
   exact ⟨rfl, r.symm.trans r'⟩
theorem OneAt.len {P : Nat -> Prop} {B : Nat} {w : World} {c : Opn} (h : OneAt P B w c) : c.cs.length = 7 := by
 obtain ⟨b, n, e, ls, vo, vt, vk, lv, L, h1, h2, -⟩ := h; rw [h2]; rfl
theorem OneAt.cell6 {P : Nat -> Prop} {B : Nat} {w : World} {c : Opn} (h : OneAt P B w c) : c.cs[6]? = some c.iv := by
 obtain ⟨b, n, e, ls, vo, vt, vk, lv, L, h1, h2, -⟩ := h; rw [h2]; rfl
theorem StC.lt {B g : Nat} {rb : Option Nat} {w : World} {v : Value} {C : List Opn} (h : StC B g rb w v C) {b : Nat} (hb : v.ownBlock = some b \/ ∃ c ∈ C, c.iv.ownBlock = some b) : B <= b /\ b < w.heap.size := by
 rcases hb with hb | ⟨c, hc, hb⟩
 ·exact World.ownsRow.lt h.row b hb
 ·obtain ⟨_, _, _, _, _, _, _, _, _, -, -, -, -, h5, -⟩ := h.all c hc
  exact World.ownsRow.lt h5 b hb
theorem StC.keep {B g : Nat} {rb rb' : Option Nat} {w w' : World} {v : Value} {C : List Opn} (h : StC B g rb w v C) (hs : w.heap.size <= w'.heap.size) (hk : ∀ b, b < w.heap.size -> b ≠ g -> rb ≠ some b -> w'.heap[b]? = w.heap[b]?)
  (hr : ∀ b, rb' = some b -> (rb = some b \/ w.heap.size <= b) /\ b < w'.heap.size) : StC B g rb' w' v C := by
 have hr2 : ∀ b, b < w.heap.size -> rb ≠ some b -> rb' ≠ some b := fun b hl hn e => (hr b e).1.elim hn (fun q => by omega)
 refine ⟨Nat.lt_of_lt_of_le h.gl hs, fun b e => (hr b e).2, own_moved h.row (fun k e => hk k (h.lt (.inl e)).2 (fun q => h.apart.vg (by rw [e, q])) (h.apart.vr k e)), ⟨h.apart.vg, fun b e => hr2 b (h.lt (.inl e)).2 (h.apart.vr b e), hr2 g h.gl h.apart.rg, fun c hc b e => ?_, h.apart.two⟩, fun c hc => ?_⟩
 ·obtain ⟨q1, q2, q3⟩ := h.apart.one c hc b e
  exact ⟨q1, q2, hr2 b (h.lt (.inr ⟨c, hc, e⟩)).2 q3⟩
 ·refine (h.all c hc).move hs (fun k hP hl => hk k hl hP.2.1 hP.2.2.1) (fun k hP hl => ⟨hP.1, hP.2.1, hr2 k hl hP.2.2.1, hP.2.2.2⟩) (fun k e => ?_)
  obtain ⟨q1, q2, q3⟩ := h.apart.one c hc k e; exact hk k (h.lt (.inr ⟨c, hc, e⟩)).2 q2 q3
theorem flat_len : ∀ (C : List Opn), (∀ c ∈ C, c.cs.length = 7) -> (C.flatMap (·.cs)).length = C.length * 7
 | [], _ => rfl
 | c :: r, h => by
  have h1 := h c (by simp)
  have h2 := flat_len r (fun d hd => h d (by simp [hd]))
  simp only [List.flatMap_cons, List.length_append, List.length_cons, h1, h2]; omega
theorem flat_top (C : List Opn) (c : Opn) (h : ∀ d ∈ C, d.cs.length = 7) (j : Nat) : ((C ++ [c]).flatMap (·.cs))[C.length * 7 + j]? = c.cs[j]? := by
 rw [List.flatMap_append, List.getElem?_append_right (by rw [flat_len C h]; omega), flat_len C h, show C.length * 7 + j - C.length * 7 = j by omega]
 simp
theorem flat_set (C : List Opn) (c : Opn) (h : ∀ d ∈ C, d.cs.length = 7) (j : Nat) (u iv : Value) (x : Itm) : ((C ++ [c]).flatMap (·.cs)).set (C.length * 7 + j) u = (C ++ [Opn.mk x (c.cs.set j u) iv]).flatMap (·.cs) := by
 rw [List.flatMap_append, List.flatMap_append, List.set_append_right _ _ (by rw [flat_len C h]; omega), flat_len C h, show C.length * 7 + j - C.length * 7 = j by omega]
 simp
theorem StC.add {B g g2 cap2 : Nat} {rb : Option Nat} {w w' : World} {v : Value} {C : List Opn} {c : Opn} {k : Nat} {ts xs : List Value} {x : Itm} (h : StC B g rb w v (C ++ [c])) (hx : ItmIn (Inn B g rb v (C ++ [c])) w x xs)
  (ht : w.ownsRow B 54 7 c.iv k ts) (h1 : w'.ownsRow B 54 7 (.slice (some ⟨g2, 0, none⟩) (k + 1) cap2) (k + 1) (ts ++ xs))
  (h2 : w'.ownsRow B 54 7 v (C.length + 1) (((C ++ [c]).flatMap (·.cs)).set (C.length * 7 + 6) (.slice (some ⟨g2, 0, none⟩) (k + 1) cap2)))
  (h3 : c.iv.ownBlock = some g2 \/ w.heap.size <= g2) (hs : w.heap.size <= w'.heap.size) (hf : ∀ b, b < w.heap.size -> v.ownBlock ≠ some b -> c.iv.ownBlock ≠ some b -> w'.heap[b]? = w.heap[b]?) :
  StC B g rb w' v (C ++ [⟨c.x.add x, c.cs.set 6 (.slice (some ⟨g2, 0, none⟩) (k + 1) cap2), .slice (some ⟨g2, 0, none⟩) (k + 1) cap2⟩]) := by
 have h7 : ∀ d ∈ C, d.cs.length = 7 := fun d hd => (h.all d (by simp [hd])).len
 have hP : ∀ b, Inn B g rb v (C ++ [c]) b -> b < w.heap.size -> Inn B g rb v (C ++ [⟨c.x.add x, c.cs.set 6 (.slice (some ⟨g2, 0, none⟩) (k + 1) cap2), .slice (some ⟨g2, 0, none⟩) (k + 1) cap2⟩]) b := fun b hb hl => by
  refine ⟨hb.1, hb.2.1, hb.2.2.1, hb.2.2.2.1, fun d hd => ?_⟩; rcases List.mem_append.1 hd with hd | hd
  ·exact hb.2.2.2.2 d (by simp [hd])
  ·simp at hd
   subst hd; intro e; simp only [Value.ownBlock, Option.some.injEq] at e; subst e; exact h3.elim (fun q => hb.2.2.2.2 c (by simp) q) (fun q => by omega)
 have hC : ∀ b, Inn B g rb v (C ++ [c]) b -> b < w.heap.size -> w'.heap[b]? = w.heap[b]? := fun b hb hl => hf b hl hb.2.2.2.1 (hb.2.2.2.2 c (by simp))
 have hcA := h.apart.one c (by simp)
 have hg2 : v.ownBlock ≠ some g2 /\ g2 ≠ g /\ rb ≠ some g2 \/ w.heap.size <= g2 := h3.imp (fun e => hcA g2 e) id; refine ⟨Nat.lt_of_lt_of_le h.gl hs, fun b e => Nat.lt_of_lt_of_le (h.rl b e) hs, by rw [List.length_append]; rw [flat_set C c h7 6 _ (.slice (some ⟨g2, 0, none⟩) (k + 1) cap2) (c.x.add x)] at h2; exact h2, ⟨h.apart.vg, h.apart.vr, h.apart.rg, fun d hd b e => ?_, ?_⟩, fun d hd => ?_⟩
 ·rcases List.mem_append.1 hd with hd | hd
  ·exact h.apart.one d (by simp [hd]) b e
  ·simp at hd
   subst hd; simp only [Value.ownBlock, Option.some.injEq] at e; subst e; refine hg2.elim id (fun q => ⟨fun e => ?_, fun e => ?_, fun e => ?_⟩)
   ·have := (h.lt (.inl e)).2; omega
   ·have := h.gl; omega
   ·have := h.rl _ e; omega
 ·have h2 := h.apart.two
  rw [List.pairwise_append] at h2 ⊢; refine ⟨h2.1, by simp, fun d hd d2 hd2 b e => ?_⟩
  simp at hd2
  subst hd2; intro e2; simp only [Value.ownBlock, Option.some.injEq] at e2; subst e2; exact h3.elim (fun q => h2.2.2 d hd c (by simp) _ e q) (fun q => by have := (h.lt (.inr ⟨d, by simp [hd], e⟩)).2; omega)
 ·rcases List.mem_append.1 hd with hd | hd
  ·refine (h.all d (by simp [hd])).move hs hC hP (fun b e => ?_)
   have h2 := h.apart.two; rw [List.pairwise_append] at h2; exact hf b (h.lt (.inr ⟨d, by simp [hd], e⟩)).2 (h.apart.one d (by simp [hd]) b e).1 (h2.2.2 d hd c (by simp) b e)
  ·simp at hd
   subst hd; obtain ⟨bb, n, e, ls, vo, vt, vk, lv, L, q1, q2, q3, q4, q5, q6⟩ := h.all c (by simp)
   obtain ⟨rfl, rfl⟩ : L.length = k /\ L.flatMap (·.2) = ts := own_same q5 ht; refine ⟨bb, n, e, ls, vo, vt, vk, lv, L ++ [(x, xs)], ?_, ?_, ExpIn.move hs hC hP e _ q3, q4.move hs hC hP, by simpa using h1, fun s hm => ?_⟩
   ·rw [q1]; simp [Itm.add]
   ·rw [q2]; rfl
   ·rcases List.mem_append.1 hm with hm | hm
    ·exact ItmIn.move hs hC hP _ _ (q6 s hm)
    ·simp at hm
     subst hm; exact ItmIn.move hs hC hP _ _ hx
abbrev SlT := Option Addr × Nat × Nat
def slT (s : SlT) : Value := .slice s.1 s.2.1 s.2.2
def rowC (d : SlT × RowD) : List Value := [slT d.1, .int .i64 d.2.lo, .int .i64 d.2.hi, .int .i64 d.2.dep]
theorem Tryz.infoRowL : (Tryz.prog.info? 110).map (fun i => (i.zero, i.size, i.bytes)) = some (some (.agg #[.slice none 0 0, .int .i64 0, .int .i64 0, .int .i64 0]), 4, 48) := by kernel_rfl
theorem own_ty {base n sz : Nat} {E : TypeId} {w : World} {v : Value} {xs : List Value} (h : w.ownsRow base E sz v n xs) : ∀ k, v.ownBlock = some k -> ∃ cs, w.heap[k]? = some (.cells cs E (0, 0)) := by
 intro k hk; rcases h.2 with ⟨rfl, -⟩ | ⟨g, cap, cur, rfl, -, hg, -⟩
 ·cases hk
 ·cases hk; exact ⟨cur, hg⟩
theorem own_box {base n sz g : Nat} {E t : TypeId} {w : World} {v : Value} {xs : List Value} {cs : Array Value} (h : w.ownsRow base E sz v n xs) (hc : Cells w g cs t) (ht : E ≠ t) : ∀ k, v.ownBlock = some k -> k ≠ g := by
 rintro k hk rfl; obtain ⟨cs2, h2⟩ := own_ty h k hk; have h3 : w.heap[k]? = some (.cells cs t (0, 0)) := hc; rw [h2] at h3; simp only [Option.some.injEq, Obj.cells.injEq] at h3; exact ht h3.2.1
theorem own_own {base base2 n n2 sz sz2 : Nat} {E t : TypeId} {w : World} {v u : Value} {xs ys : List Value} (h : w.ownsRow base E sz v n xs) (h2 : w.ownsRow base2 t sz2 u n2 ys) (ht : E ≠ t) : ∀ k, v.ownBlock = some k -> u.ownBlock ≠ some k := by
 intro k hk hk2; obtain ⟨cs, h3⟩ := own_ty h k hk; obtain ⟨cs2, h4⟩ := own_ty h2 k hk2; rw [h3] at h4; simp only [Option.some.injEq, Obj.cells.injEq] at h4; exact ht h4.2.1
structure RwS (B gr go gl : Nat) (w : World) (lv : Value) (D : List (SlT × RowD)) (cur : SlT) (toks : List Tok) (fr hi dp o : Int) : Prop where
 r : Cells w gr #[slT cur, .int .i64 fr, .int .i64 hi, .int .i64 dp] 110
 o : Cells w go #[.int .i64 o] 3
 l : Cells w gl #[lv] 95
 own : w.ownsRow B 110 4 lv D.length (D.flatMap rowC)
 lg : lv.ownBlock ≠ some gr
 tk : OwnT B w (slT cur) toks
 fin : ∀ d ∈ D, OwnT B w (slT d.1) d.2.toks /\ ∀ k, (slT d.1).ownBlock = some k -> (slT cur).ownBlock ≠ some k
 le : B <= gr /\ B <= go /\ B <= gl
section
variable {B gr go gl : Nat} {w w' : World} {lv : Value} {D : List (SlT × RowD)} {cur : SlT} {toks : List Tok} {fr hi dp o : Int}
theorem ownT_lt {v : Value} {l : List Tok} (h : OwnT B w v l) : ∀ k, v.ownBlock = some k -> k < w.heap.size := fun k hk => (World.ownsRow.lt h k hk).2
theorem RwS.moved (h : RwS B gr go gl w lv D cur toks fr hi dp o) (hk : ∀ k, k < w.heap.size -> k ≠ gr -> k ≠ go -> k ≠ gl -> w'.heap[k]? = w.heap[k]?) {fr' hi' dp' o' : Int}
  (hr : Cells w' gr #[slT cur, .int .i64 fr', .int .i64 hi', .int .i64 dp'] 110) (ho : Cells w' go #[.int .i64 o'] 3) (hl : Cells w' gl #[lv] 95) : RwS B gr go gl w' lv D cur toks fr' hi' dp' o' := by
 have hT : ∀ v l, OwnT B w v l -> OwnT B w' v l := fun v l hv => hv.moved fun k e => hk k (ownT_lt hv k e) (own_box hv h.r (by decide) k e) (own_box hv h.o (by decide) k e) (own_box hv h.l (by decide) k e)
 refine ⟨hr, ho, hl, own_moved h.own (fun k e => hk k (World.ownsRow.lt h.own k e).2 (fun q => h.lg (by rw [e, q])) (own_box h.own h.o (by decide) k e) (own_box h.own h.l (by decide) k e)), h.lg, hT _ _ h.tk, fun d hd => ⟨hT _ _ (h.fin d hd).1, (h.fin d hd).2⟩, h.le⟩
theorem RwS.below (h : RwS B gr go gl w lv D cur toks fr hi dp o) (hb : Below w.heap.size w w') : RwS B gr go gl w' lv D cur toks fr hi dp o :=
 h.moved (fun k hk _ _ _ => hb.block k hk) (h.r.below hb h.r.lt) (h.o.below hb h.o.lt) (h.l.below hb h.l.lt)
theorem RwS.ne (h : RwS B gr go gl w lv D cur toks fr hi dp o) : gr ≠ go /\ gr ≠ gl /\ go ≠ gl := by
 have hd : ∀ {g g2 : Nat} {cs cs2 : Array Value} {t t2 : TypeId}, Cells w g cs t -> Cells w g2 cs2 t2 -> t ≠ t2 -> g ≠ g2 := by
  rintro g g2 cs cs2 t t2 h1 h2 ht rfl; have h1' : w.heap[g]? = some (.cells cs t (0, 0)) := h1; have h2' : w.heap[g]? = some (.cells cs2 t2 (0, 0)) := h2; rw [h1'] at h2'; simp only [Option.some.injEq, Obj.cells.injEq] at h2'; exact ht h2'.2.1
 exact ⟨hd h.r h.o (by decide), hd h.r h.l (by decide), hd h.o h.l (by decide)⟩
theorem RwS.setHi (h : RwS B gr go gl w lv D cur toks fr hi dp o) (x : Int) : RwS B gr go gl (w.setCell ⟨gr, 2, none⟩ (.int .i64 x)) lv D cur toks fr x dp o := by
 obtain ⟨n1, n2, n3⟩ := h.ne; exact h.moved (fun k _ hk _ _ => Below.heap_setCell _ _ _ _ hk) (h.r.set 2 (by simp) (.int .i64 x)) (h.o.setOther _ _ n1) (h.l.setOther _ _ n2)
theorem RwS.setDp (h : RwS B gr go gl w lv D cur toks fr hi dp o) (x : Int) : RwS B gr go gl (w.setCell ⟨gr, 3, none⟩ (.int .i64 x)) lv D cur toks fr hi x o := by
 obtain ⟨n1, n2, n3⟩ := h.ne; exact h.moved (fun k _ hk _ _ => Below.heap_setCell _ _ _ _ hk) (h.r.set 3 (by simp) (.int .i64 x)) (h.o.setOther _ _ n1) (h.l.setOther _ _ n2)
theorem RwS.setO (h : RwS B gr go gl w lv D cur toks fr hi dp o) (x : Int) : RwS B gr go gl (w.setCell ⟨go, 0, none⟩ (.int .i64 x)) lv D cur toks fr hi dp x := by
 obtain ⟨n1, n2, n3⟩ := h.ne; exact h.moved (fun k _ _ hk _ => Below.heap_setCell _ _ _ _ hk) (h.r.setOther _ _ n1.symm) (h.o.set 0 (by simp) (.int .i64 x)) (h.l.setOther _ _ n3)
theorem wpList_append_rowS {w : World} {ops : Array Oper} {rest : List Oper} {p : Oper} {a : Act} {Q : Exit -> Act -> World -> Prop} (hgd : p.guard = none) (s x : Operand)
  (hop : p.op = .call { callee := .builtin .append, args := #[s, x], argTypes := #[95, 95] }) (B : Nat) (lv : Value) (D : List (SlT × RowD)) (d : SlT × RowD) (hs : a.eval s = lv)
  (hown : w.ownsRow B 110 4 lv D.length (D.flatMap rowC)) (g : Nat) (hx : a.eval x = .slice (some ⟨g, 0, none⟩) 1 1) (hc : Cells w g #[slT d.1, .int .i64 d.2.lo, .int .i64 d.2.hi, .int .i64 d.2.dep] 110)
  (hD : D.length <= 1000000) (hbase : B <= w.heap.size) (H : Nat) (hH : w.heap.size = H)
  (hK : ∀ g2 c2 w', w'.ownsRow B 110 4 (.slice (some ⟨g2, 0, none⟩) (D.length + 1) c2) (D.length + 1) (D.flatMap rowC ++ rowC d) -> w.grownBy w' lv.ownBlock -> (lv.ownBlock = some g2 \/ g2 = H) -> g2 < w'.heap.size ->
   wpList Tryz.prog ops Q rest (a.put p.dst (.slice (some ⟨g2, 0, none⟩) (D.length + 1) c2)) w') : wpList Tryz.prog ops Q (p :: rest) a w := by
 obtain ⟨i, hi1, hi2, hi3, hi4⟩ := info_parts Tryz.infoRowL; refine wpList_append_lies w hgd s x 95 hop B 110 i _ 4 48 Tryz.underlying95 hi1 hi2 hi3 hi4 rfl (by decide) lv D.length (D.flatMap rowC) hs hown ⟨g, 0, none⟩ 1 1 (rowC d) hx rfl ?_ ?_ (by omega) (by unfold maxLen; omega) (by omega) hbase H hH hK
 ·intro j u hu
  rw [Addr.add_lit, Nat.zero_add]; exact hc.cell _ _ (by simpa [rowC] using hu)
 ·intro u hu
  simp only [rowC, List.mem_cons, List.not_mem_nil, or_false] at hu; rcases hu with rfl | rfl | rfl | rfl <;> rfl
theorem RwS.cur_fresh (h : RwS B gr go gl w lv D cur toks fr hi dp o) : ∀ k, (slT cur).ownBlock = some k -> k < w.heap.size /\ k ≠ gr /\ k ≠ go /\ k ≠ gl /\ lv.ownBlock ≠ some k := fun k e =>
 ⟨ownT_lt h.tk k e, own_box h.tk h.r (by decide) k e, own_box h.tk h.o (by decide) k e, own_box h.tk h.l (by decide) k e, own_own h.tk h.own (by decide) k e⟩
theorem flat_snoc (D : List (SlT × RowD)) (x : SlT × RowD) : (D ++ [x]).flatMap rowC = D.flatMap rowC ++ rowC x := by simp
theorem RwS.push (h : RwS B gr go gl w lv D cur toks fr hi dp o) {g2 c2 : Nat} (hg : w.grownBy w' lv.ownBlock) (hown : w'.ownsRow B 110 4 (.slice (some ⟨g2, 0, none⟩) (D.length + 1) c2) (D.length + 1) (D.flatMap rowC ++ rowC (cur, ⟨toks, fr, hi, dp⟩)))
  (hat : lv.ownBlock = some g2 \/ w.heap.size <= g2) (x : Int) :
  RwS B gr go gl (((((w'.setCell ⟨gl, 0, none⟩ (.slice (some ⟨g2, 0, none⟩) (D.length + 1) c2)).setCell ⟨gr, 0, none⟩ (.slice none 0 0)).setCell ⟨gr, 1, none⟩ (.int .i64 x)).setCell ⟨gr, 2, none⟩ (.int .i64 0)).setCell ⟨gr, 3, none⟩ (.int .i64 0))
   (.slice (some ⟨g2, 0, none⟩) (D.length + 1) c2) (D ++ [(cur, ⟨toks, fr, hi, dp⟩)]) (none, 0, 0) [] x 0 0 o := by
 obtain ⟨n1, n2, n3⟩ := h.ne; have hgr : lv.ownBlock ≠ some gr := h.lg; have hr' : Cells w' gr _ _ := h.r.kept hg (fun e => hgr e.symm); have ho' : Cells w' go _ _ := h.o.kept hg (fun e => own_box h.own h.o (by decide) go e.symm rfl)
 have hl' : Cells w' gl _ _ := h.l.kept hg (fun e => own_box h.own h.l (by decide) gl e.symm rfl)
 have hg2 : g2 ≠ gr := by
  rcases hat with e | e
  ·rintro rfl; exact hgr e
  ·have := h.r.lt; omega
 have hT : ∀ v l, OwnT B w v l -> OwnT B (((((w'.setCell ⟨gl, 0, none⟩ (.slice (some ⟨g2, 0, none⟩) (D.length + 1) c2)).setCell ⟨gr, 0, none⟩ (.slice none 0 0)).setCell ⟨gr, 1, none⟩ (.int .i64 x)).setCell ⟨gr, 2, none⟩ (.int .i64 0)).setCell ⟨gr, 3, none⟩ (.int .i64 0)) v l := fun v l hv =>
  hv.moved fun k e => by
   have e1 : k ≠ gr := own_box hv h.r (by decide) k e
   have e2 : k ≠ gl := own_box hv h.l (by decide) k e
   have e3 := own_own hv h.own (by decide) k e
   rw [Below.heap_setCell _ _ _ _ (by exact e1), Below.heap_setCell _ _ _ _ (by exact e1), Below.heap_setCell _ _ _ _ (by exact e1), Below.heap_setCell _ _ _ _ (by exact e1), Below.heap_setCell _ _ _ _ (by exact e2)]
   exact hg.block k (ownT_lt hv k e) (fun q => e3 q.symm)
 have s0 := (hr'.setOther ⟨gl, 0, none⟩ (.slice (some ⟨g2, 0, none⟩) (D.length + 1) c2) (by exact n2.symm))
 refine ⟨(((s0.set 0 (by simp) (.slice none 0 0)).set 1 (by simp) (.int .i64 x)).set 2 (by simp) (.int .i64 0)).set 3 (by simp) (.int .i64 0), ?_, ?_, ?_, ?_, OwnT.nil, ?_, h.le⟩
 ·exact ((((ho'.setOther _ _ n3.symm).setOther _ _ n1).setOther _ _ n1).setOther _ _ n1).setOther _ _ n1
 ·exact ((((hl'.set 0 (by simp) _).setOther _ _ n2).setOther _ _ n2).setOther _ _ n2).setOther _ _ n2
 ·rw [flat_snoc, List.length_append, List.length_singleton]
  refine own_moved hown (fun k e => ?_); cases e
  have e2 : g2 ≠ gl := own_box hown hl' (by decide) g2 rfl
  rw [Below.heap_setCell _ _ _ _ (by exact hg2), Below.heap_setCell _ _ _ _ (by exact hg2), Below.heap_setCell _ _ _ _ (by exact hg2), Below.heap_setCell _ _ _ _ (by exact hg2), Below.heap_setCell _ _ _ _ (by exact e2)]
 ·intro e
  exact hg2 (by simpa [Value.ownBlock] using e)
 ·intro d hd
  rcases List.mem_append.1 hd with hd | hd
  ·exact ⟨hT _ _ (h.fin d hd).1, fun k _ e => by cases e⟩
  ·rw [List.mem_singleton.1 hd]
   exact ⟨hT _ _ h.tk, fun k _ e => by cases e⟩
theorem RwS.tok (h : RwS B gr go gl w lv D cur toks fr hi dp o) {t : Tok} {gb cap : Nat} (hg : w.grownBy w' (slT cur).ownBlock) (hown : OwnT B w' (.slice (some ⟨gb, 0, none⟩) (toks.length + 1) cap) (toks ++ [t])) (hat : (slT cur).ownBlock = some gb \/ w.heap.size <= gb) :
  RwS B gr go gl (w'.setCell ⟨gr, 0, none⟩ (.slice (some ⟨gb, 0, none⟩) (toks.length + 1) cap)) lv D (some ⟨gb, 0, none⟩, toks.length + 1, cap) (toks ++ [t]) fr hi dp o := by
 obtain ⟨n1, n2, n3⟩ := h.ne; have hc := h.cur_fresh; have hr' : Cells w' gr _ _ := h.r.kept hg (fun e => (hc gr e.symm).2.1 rfl); have ho' : Cells w' go _ _ := h.o.kept hg (fun e => (hc go e.symm).2.2.1 rfl); have hl' : Cells w' gl _ _ := h.l.kept hg (fun e => (hc gl e.symm).2.2.2.1 rfl); have hgr : gb ≠ gr := own_box hown hr' (by decide) gb rfl
 refine ⟨hr'.set 0 (by simp) _, ho'.setOther _ _ n1, hl'.setOther _ _ n2, ?_, h.lg, ?_, ?_, h.le⟩
 ·refine own_moved h.own (fun k e => ?_)
  rw [Below.heap_setCell _ _ _ _ (by intro q; exact h.lg (by rw [e]; exact congrArg some q))]
  exact hg.block k (World.ownsRow.lt h.own k e).2 (fun q => (hc k q.symm).2.2.2.2 e)
 ·refine hown.moved (fun k e => ?_)
  cases e
  exact Below.heap_setCell _ _ _ _ (by exact hgr)
 ·intro d hd
  obtain ⟨f1, f2⟩ := h.fin d hd; refine ⟨f1.moved fun k e => ?_, fun k e q => ?_⟩
  ·rw [Below.heap_setCell _ _ _ _ (by exact own_box f1 h.r (by decide) k e)]
   exact hg.block k (ownT_lt f1 k e) (fun q => f2 k e q.symm)
  ·have q : gb = k := by simpa [slT, Value.ownBlock] using q
   subst q; rcases hat with hat | hat
   ·exact f2 _ e hat
   ·have := ownT_lt f1 _ e; omega
end
def EndP (B gr go gl : Nat) (D : List (SlT × RowD)) (o : Int) (x : Int) (w : World) (e : Ending) (w' : World) : Prop :=
 e = .returned (.tuple #[]) /\ (∃ lv, RwS B gr go gl w' lv D (none, 0, 0) [] (x + 1) 0 0 o) /\ Below B w w'
theorem rowsEnd_any {B gr go gl : Nat} {w : World} {lv : Value} {D : List (SlT × RowD)} {cur : SlT} {toks : List Tok} {fr hi dp o : Int} (h : RwS B gr go gl w lv D cur toks fr hi dp o) (x : Int)
  (hx : -1 <= x /\ x <= 1000000000) (ho : -1000000 <= o /\ o <= 1000000) (hD : D.length <= 1000000) (hT : toks.length <= 1000000) :
  Calls Tryz.prog 100 #[.int .i64 x, .pointer (some ⟨gr, 0, none⟩), .pointer (some ⟨go, 0, none⟩), .pointer (some ⟨gl, 0, none⟩)] w (EndP B gr go gl (D ++ [(cur, endR o toks fr x)]) (nxtO o toks) x w) := by
 have hB0 : B <= w.heap.size := by have := h.le; have := h.r.lt; omega
 have h1 := h.setHi x; have b1 : Below B w (w.setCell ⟨gr, 2, none⟩ (.int .i64 x)) := (Below.refl _ _).setCell (by exact h.le.1) _
 have hCl := lkCloses_any _ _ toks fr x dp h1.tk.toks hT; obtain ⟨n1, n2, n3⟩ := h.ne; have n1' := n1.symm; have n2' := n2.symm; have n3' := n3.symm; have k1 : IntKind.i64.wrap (o - 1) = o - 1 := IntWalk.i64_in _ (by omega)
 have k2 : IntKind.i64.wrap (o + 1) = o + 1 := IntWalk.i64_in _ (by omega)
 have k3 : IntKind.i64.wrap (o - 1 + 1) = o := by rw [IntWalk.i64_in _ (by omega)]; omega
 have k4 : IntKind.i64.wrap (x + 1) = x + 1 := IntWalk.i64_in _ (by omega)
 obtain ⟨a, n, c⟩ := cur
 have hcd : clR toks = true /\ depR o toks = o - 1 \/ clR toks = false /\ depR o toks = o := by
  unfold depR; cases clR toks
  ·exact .inr ⟨rfl, rfl⟩
  ·exact .inl ⟨rfl, rfl⟩
 have hod : opR toks = true /\ nxtO o toks = depR o toks + 1 \/ opR toks = false /\ nxtO o toks = depR o toks := by
  unfold nxtO; cases opR toks
  ·exact .inr ⟨rfl, rfl⟩
  ·exact .inl ⟨rfl, rfl⟩
 unfold endR; have H1 := Lib.hid (And.intro h1 b1); have hr := h.r; have ho := h.o; have hl := h.l; have lr := hr.lt; have lo := ho.lt; have ll := hl.lt; have hrc0 := hr.cell 0 _ rfl; have hrf0 := hr.frozen 0; have hrc1 := hr.cell 1 _ rfl; have hrf1 := hr.frozen 1; have hrc2 := hr.cell 2 _ rfl; have hrf2 := hr.frozen 2; have hrc3 := hr.cell 3 _ rfl; have hrf3 := hr.frozen 3; have hoc0 := ho.cell 0 _ rfl; have hof0 := ho.frozen 0; have hlc0 := hl.cell 0 _ rfl; have hlf0 := hl.frozen 0; clear hr ho hl; simp only [slT] at hCl hrc0; clear h h1 b1; go_enter Tryz.func100, Tryz.ntmps100; go_wp2_with fail; refine hCl.mono ?_; rintro _ w2 ⟨rfl, hb2⟩; have H2 := Lib.hid (And.intro (H1.out.1.below hb2) (H1.out.2.trans (hb2.mono (by have := H1.out.2.size; omega))))
 clear hCl hb2 H1; clear hrc0 hrc1 hrc2 hrc3 hrf0 hrf1 hrf2 hrf3 hoc0 hof0 hlc0 hlf0 lr lo ll; rcases hcd with ⟨ec, ed⟩ | ⟨ec, ed⟩
 ·rw [ed] at hod
  have H3 := Lib.hid (And.intro ((H2.out.1.setO (o - 1)).setDp (o - 1)) ((H2.out.2.setCell (p := ⟨go, 0, none⟩) H2.out.1.le.2.1 (.int .i64 (o - 1))).setCell (p := ⟨gr, 3, none⟩) H2.out.1.le.1 (.int .i64 (o - 1)))); have hOp := lkOpens_any _ _ toks fr x (o - 1) H3.out.1.tk.toks hT; have HD := Lib.hid ed; have hr := H2.out.1.r; have ho := H2.out.1.o; have hl := H2.out.1.l; have lr := hr.lt; have lo := ho.lt; have ll := hl.lt; have hrc0 := hr.cell 0 _ rfl; have hrf0 := hr.frozen 0; have hrc1 := hr.cell 1 _ rfl; have hrf1 := hr.frozen 1; have hrc2 := hr.cell 2 _ rfl; have hrf2 := hr.frozen 2; have hrc3 := hr.cell 3 _ rfl; have hrf3 := hr.frozen 3; have hoc0 := ho.cell 0 _ rfl; have hof0 := ho.frozen 0; have hlc0 := hl.cell 0 _ rfl; have hlf0 := hl.frozen 0; clear hr ho hl; simp only [slT] at hOp hrc0; rw [ec]; clear ed ec; go_wp2_with fail; refine hOp.mono ?_; rintro _ w4 ⟨rfl, hb4⟩; have H4 := Lib.hid (And.intro (H3.out.1.below hb4) (H3.out.2.trans (hb4.mono (by have := H3.out.2.size; omega))))
  clear hOp hb4 H3 H2; clear hrc0 hrc1 hrc2 hrc3 hrf0 hrf1 hrf2 hrf3 hoc0 hof0 hlc0 hlf0 lr lo ll; rcases hod with ⟨ec, ed⟩ | ⟨ec, ed⟩
  ·have H5 := Lib.hid (And.intro (H4.out.1.setO o) (H4.out.2.setCell (p := ⟨go, 0, none⟩) H4.out.1.le.2.1 (.int .i64 o)))
   have HE : Hid (depR o toks = o - 1 /\ nxtO o toks = o) := Lib.hid ⟨HD.out, by omega⟩
   have hr := H4.out.1.r; have ho := H4.out.1.o; have hl := H4.out.1.l; have lr := hr.lt; have lo := ho.lt; have ll := hl.lt; have hrc0 := hr.cell 0 _ rfl; have hrf0 := hr.frozen 0; have hrc1 := hr.cell 1 _ rfl; have hrf1 := hr.frozen 1; have hrc2 := hr.cell 2 _ rfl; have hrf2 := hr.frozen 2; have hrc3 := hr.cell 3 _ rfl; have hrf3 := hr.frozen 3; have hoc0 := ho.cell 0 _ rfl; have hof0 := ho.frozen 0; have hlc0 := hl.cell 0 _ rfl; have hlf0 := hl.frozen 0; clear hr ho hl; rw [ec]; clear ec ed; go_wp2_with (with_reducible first | refine stop_append ?_)
   refine Stop.out ?_; refine wpList_append_rowS rfl _ _ rfl B lv D ((a, n, c), ⟨toks, fr, x, o - 1⟩) rfl (by exact H5.out.1.own.alloc _) w4.heap.size (by rfl) (by have q := Cells.new (w4.setCell ⟨go, 0, none⟩ (.int .i64 o)) #[slT (a, n, c), .int .i64 fr, .int .i64 x, .int .i64 (o - 1)] 110; (try simp only [World.size_setCell] at q); exact q) hD (by have := H5.out.1.r.lt; have := H5.out.1.le; simp only [World.size_alloc, World.size_setCell] at *; omega) ((w4.setCell ⟨go, 0, none⟩ (.int .i64 o)).heap.size + 1) (by simp) ?_
   intro g2 c2 w6 ho6 hg6 hat6 hlt6; have hgW := (World.grownBy_alloc (w4.setCell ⟨go, 0, none⟩ (.int .i64 o)) (.cells #[slT (a, n, c), .int .i64 fr, .int .i64 x, .int .i64 (o - 1)] 110) lv.ownBlock).trans hg6; have HP := Lib.hid (H5.out.1.push hgW ho6 (hat6.imp id (fun q => by omega)) (x + 1))
   have hr := H5.out.1.r.kept hgW (fun e => H5.out.1.lg e.symm); have hl := H5.out.1.l.kept hgW (fun e => own_box H5.out.1.own H5.out.1.l (by decide) gl e.symm rfl)
   have HB := Lib.hid (H5.out.2.grown hgW (by have := H5.out.1.r.lt; have := H5.out.1.le; omega) (fun k e => (World.ownsRow.lt H5.out.1.own k e).1))
   have HL := Lib.hid H5.out.1.le; clear hrc0 hrc1 hrc2 hrc3 hrf0 hrf1 hrf2 hrf3 hoc0 hof0 hlc0 hlf0 lr lo ll; have lr := hr.lt; have ll := hl.lt; have hrc0 := hr.cell 0 _ rfl; have hrf0 := hr.frozen 0; have hrc1 := hr.cell 1 _ rfl; have hrf1 := hr.frozen 1; have hrc2 := hr.cell 2 _ rfl; have hrf2 := hr.frozen 2; have hrc3 := hr.cell 3 _ rfl; have hrf3 := hr.frozen 3; have hlc0 := hl.cell 0 _ rfl; have hlf0 := hl.frozen 0; clear hr hl hgW ho6 hg6 hat6 hlt6; go_wp2_with fail; refine bodyPost_end (v := .tuple #[]) (by simp [results, Tryz.results100, go_sem]) rfl ?_
   rw [HE.out.1, HE.out.2]; exact ⟨rfl, ⟨_, HP.out⟩, ((((HB.out.setCell (by exact HL.out.2.2) _).setCell (by exact HL.out.1) _).setCell (by exact HL.out.1) _).setCell (by exact HL.out.1) _).setCell (by exact HL.out.1) _⟩
  ·have H5 := H4
   have HE : Hid (depR o toks = o - 1 /\ nxtO o toks = o - 1) := Lib.hid ⟨HD.out, ed⟩; have hr := H4.out.1.r; have ho := H4.out.1.o; have hl := H4.out.1.l; have lr := hr.lt; have lo := ho.lt; have ll := hl.lt; have hrc0 := hr.cell 0 _ rfl; have hrf0 := hr.frozen 0; have hrc1 := hr.cell 1 _ rfl; have hrf1 := hr.frozen 1; have hrc2 := hr.cell 2 _ rfl; have hrf2 := hr.frozen 2; have hrc3 := hr.cell 3 _ rfl; have hrf3 := hr.frozen 3; have hoc0 := ho.cell 0 _ rfl; have hof0 := ho.frozen 0; have hlc0 := hl.cell 0 _ rfl; have hlf0 := hl.frozen 0; clear hr ho hl; rw [ec]; clear ec ed; go_wp2_with (with_reducible first | refine stop_append ?_)
   refine Stop.out ?_; refine wpList_append_rowS rfl _ _ rfl B lv D ((a, n, c), ⟨toks, fr, x, o - 1⟩) rfl (by exact H5.out.1.own.alloc _) w4.heap.size (by rfl) (by have q := Cells.new (w4) #[slT (a, n, c), .int .i64 fr, .int .i64 x, .int .i64 (o - 1)] 110; (try simp only [World.size_setCell] at q); exact q) hD (by have := H5.out.1.r.lt; have := H5.out.1.le; simp only [World.size_alloc, World.size_setCell] at *; omega) ((w4).heap.size + 1) (by simp) ?_
   intro g2 c2 w6 ho6 hg6 hat6 hlt6; have hgW := (World.grownBy_alloc (w4) (.cells #[slT (a, n, c), .int .i64 fr, .int .i64 x, .int .i64 (o - 1)] 110) lv.ownBlock).trans hg6; have HP := Lib.hid (H5.out.1.push hgW ho6 (hat6.imp id (fun q => by omega)) (x + 1))
   have hr := H5.out.1.r.kept hgW (fun e => H5.out.1.lg e.symm); have hl := H5.out.1.l.kept hgW (fun e => own_box H5.out.1.own H5.out.1.l (by decide) gl e.symm rfl)
   have HB := Lib.hid (H5.out.2.grown hgW (by have := H5.out.1.r.lt; have := H5.out.1.le; omega) (fun k e => (World.ownsRow.lt H5.out.1.own k e).1))
   have HL := Lib.hid H5.out.1.le; clear hrc0 hrc1 hrc2 hrc3 hrf0 hrf1 hrf2 hrf3 hoc0 hof0 hlc0 hlf0 lr lo ll; have lr := hr.lt; have ll := hl.lt; have hrc0 := hr.cell 0 _ rfl; have hrf0 := hr.frozen 0; have hrc1 := hr.cell 1 _ rfl; have hrf1 := hr.frozen 1; have hrc2 := hr.cell 2 _ rfl; have hrf2 := hr.frozen 2; have hrc3 := hr.cell 3 _ rfl; have hrf3 := hr.frozen 3; have hlc0 := hl.cell 0 _ rfl; have hlf0 := hl.frozen 0; clear hr hl hgW ho6 hg6 hat6 hlt6; go_wp2_with fail; refine bodyPost_end (v := .tuple #[]) (by simp [results, Tryz.results100, go_sem]) rfl ?_
   rw [HE.out.1, HE.out.2]; exact ⟨rfl, ⟨_, HP.out⟩, ((((HB.out.setCell (by exact HL.out.2.2) _).setCell (by exact HL.out.1) _).setCell (by exact HL.out.1) _).setCell (by exact HL.out.1) _).setCell (by exact HL.out.1) _⟩
 ·rw [ed] at hod
  have H3 := Lib.hid (And.intro (H2.out.1.setDp o) (H2.out.2.setCell (p := ⟨gr, 3, none⟩) H2.out.1.le.1 (.int .i64 o))); have hOp := lkOpens_any _ _ toks fr x o H3.out.1.tk.toks hT; have HD := Lib.hid ed; have hr := H2.out.1.r; have ho := H2.out.1.o; have hl := H2.out.1.l; have lr := hr.lt; have lo := ho.lt; have ll := hl.lt; have hrc0 := hr.cell 0 _ rfl; have hrf0 := hr.frozen 0; have hrc1 := hr.cell 1 _ rfl; have hrf1 := hr.frozen 1; have hrc2 := hr.cell 2 _ rfl; have hrf2 := hr.frozen 2; have hrc3 := hr.cell 3 _ rfl; have hrf3 := hr.frozen 3; have hoc0 := ho.cell 0 _ rfl; have hof0 := ho.frozen 0; have hlc0 := hl.cell 0 _ rfl; have hlf0 := hl.frozen 0; clear hr ho hl; simp only [slT] at hOp hrc0; rw [ec]; clear ed ec; go_wp2_with fail; refine hOp.mono ?_; rintro _ w4 ⟨rfl, hb4⟩; have H4 := Lib.hid (And.intro (H3.out.1.below hb4) (H3.out.2.trans (hb4.mono (by have := H3.out.2.size; omega))))
  clear hOp hb4 H3 H2; clear hrc0 hrc1 hrc2 hrc3 hrf0 hrf1 hrf2 hrf3 hoc0 hof0 hlc0 hlf0 lr lo ll; rcases hod with ⟨ec, ed⟩ | ⟨ec, ed⟩
  ·have H5 := Lib.hid (And.intro (H4.out.1.setO (o + 1)) (H4.out.2.setCell (p := ⟨go, 0, none⟩) H4.out.1.le.2.1 (.int .i64 (o + 1))))
   have HE : Hid (depR o toks = o /\ nxtO o toks = o + 1) := Lib.hid ⟨HD.out, ed⟩; have hr := H4.out.1.r; have ho := H4.out.1.o; have hl := H4.out.1.l; have lr := hr.lt; have lo := ho.lt; have ll := hl.lt; have hrc0 := hr.cell 0 _ rfl; have hrf0 := hr.frozen 0; have hrc1 := hr.cell 1 _ rfl; have hrf1 := hr.frozen 1; have hrc2 := hr.cell 2 _ rfl; have hrf2 := hr.frozen 2; have hrc3 := hr.cell 3 _ rfl; have hrf3 := hr.frozen 3; have hoc0 := ho.cell 0 _ rfl; have hof0 := ho.frozen 0; have hlc0 := hl.cell 0 _ rfl; have hlf0 := hl.frozen 0; clear hr ho hl; rw [ec]; clear ec ed; go_wp2_with (with_reducible first | refine stop_append ?_)
   refine Stop.out ?_; refine wpList_append_rowS rfl _ _ rfl B lv D ((a, n, c), ⟨toks, fr, x, o⟩) rfl (by exact H5.out.1.own.alloc _) w4.heap.size (by rfl) (by have q := Cells.new (w4.setCell ⟨go, 0, none⟩ (.int .i64 (o + 1))) #[slT (a, n, c), .int .i64 fr, .int .i64 x, .int .i64 (o)] 110; (try simp only [World.size_setCell] at q); exact q) hD (by have := H5.out.1.r.lt; have := H5.out.1.le; simp only [World.size_alloc, World.size_setCell] at *; omega) ((w4.setCell ⟨go, 0, none⟩ (.int .i64 (o + 1))).heap.size + 1) (by simp) ?_
   intro g2 c2 w6 ho6 hg6 hat6 hlt6; have hgW := (World.grownBy_alloc (w4.setCell ⟨go, 0, none⟩ (.int .i64 (o + 1))) (.cells #[slT (a, n, c), .int .i64 fr, .int .i64 x, .int .i64 (o)] 110) lv.ownBlock).trans hg6; have HP := Lib.hid (H5.out.1.push hgW ho6 (hat6.imp id (fun q => by omega)) (x + 1))
   have hr := H5.out.1.r.kept hgW (fun e => H5.out.1.lg e.symm); have hl := H5.out.1.l.kept hgW (fun e => own_box H5.out.1.own H5.out.1.l (by decide) gl e.symm rfl)
   have HB := Lib.hid (H5.out.2.grown hgW (by have := H5.out.1.r.lt; have := H5.out.1.le; omega) (fun k e => (World.ownsRow.lt H5.out.1.own k e).1))
   have HL := Lib.hid H5.out.1.le; clear hrc0 hrc1 hrc2 hrc3 hrf0 hrf1 hrf2 hrf3 hoc0 hof0 hlc0 hlf0 lr lo ll; have lr := hr.lt; have ll := hl.lt; have hrc0 := hr.cell 0 _ rfl; have hrf0 := hr.frozen 0; have hrc1 := hr.cell 1 _ rfl; have hrf1 := hr.frozen 1; have hrc2 := hr.cell 2 _ rfl; have hrf2 := hr.frozen 2; have hrc3 := hr.cell 3 _ rfl; have hrf3 := hr.frozen 3; have hlc0 := hl.cell 0 _ rfl; have hlf0 := hl.frozen 0; clear hr hl hgW ho6 hg6 hat6 hlt6; go_wp2_with fail; refine bodyPost_end (v := .tuple #[]) (by simp [results, Tryz.results100, go_sem]) rfl ?_
   rw [HE.out.1, HE.out.2]; exact ⟨rfl, ⟨_, HP.out⟩, ((((HB.out.setCell (by exact HL.out.2.2) _).setCell (by exact HL.out.1) _).setCell (by exact HL.out.1) _).setCell (by exact HL.out.1) _).setCell (by exact HL.out.1) _⟩
  ·have H5 := H4
   have HE : Hid (depR o toks = o /\ nxtO o toks = o) := Lib.hid ⟨HD.out, ed⟩; have hr := H4.out.1.r; have ho := H4.out.1.o; have hl := H4.out.1.l; have lr := hr.lt; have lo := ho.lt; have ll := hl.lt; have hrc0 := hr.cell 0 _ rfl; have hrf0 := hr.frozen 0; have hrc1 := hr.cell 1 _ rfl; have hrf1 := hr.frozen 1; have hrc2 := hr.cell 2 _ rfl; have hrf2 := hr.frozen 2; have hrc3 := hr.cell 3 _ rfl; have hrf3 := hr.frozen 3; have hoc0 := ho.cell 0 _ rfl; have hof0 := ho.frozen 0; have hlc0 := hl.cell 0 _ rfl; have hlf0 := hl.frozen 0; clear hr ho hl; rw [ec]; clear ec ed; go_wp2_with (with_reducible first | refine stop_append ?_)
   refine Stop.out ?_; refine wpList_append_rowS rfl _ _ rfl B lv D ((a, n, c), ⟨toks, fr, x, o⟩) rfl (by exact H5.out.1.own.alloc _) w4.heap.size (by rfl) (by have q := Cells.new (w4) #[slT (a, n, c), .int .i64 fr, .int .i64 x, .int .i64 (o)] 110; (try simp only [World.size_setCell] at q); exact q) hD (by have := H5.out.1.r.lt; have := H5.out.1.le; simp only [World.size_alloc, World.size_setCell] at *; omega) ((w4).heap.size + 1) (by simp) ?_
   intro g2 c2 w6 ho6 hg6 hat6 hlt6; have hgW := (World.grownBy_alloc (w4) (.cells #[slT (a, n, c), .int .i64 fr, .int .i64 x, .int .i64 (o)] 110) lv.ownBlock).trans hg6; have HP := Lib.hid (H5.out.1.push hgW ho6 (hat6.imp id (fun q => by omega)) (x + 1))
   have hr := H5.out.1.r.kept hgW (fun e => H5.out.1.lg e.symm); have hl := H5.out.1.l.kept hgW (fun e => own_box H5.out.1.own H5.out.1.l (by decide) gl e.symm rfl)
   have HB := Lib.hid (H5.out.2.grown hgW (by have := H5.out.1.r.lt; have := H5.out.1.le; omega) (fun k e => (World.ownsRow.lt H5.out.1.own k e).1))
   have HL := Lib.hid H5.out.1.le; clear hrc0 hrc1 hrc2 hrc3 hrf0 hrf1 hrf2 hrf3 hoc0 hof0 hlc0 hlf0 lr lo ll; have lr := hr.lt; have ll := hl.lt; have hrc0 := hr.cell 0 _ rfl; have hrf0 := hr.frozen 0; have hrc1 := hr.cell 1 _ rfl; have hrf1 := hr.frozen 1; have hrc2 := hr.cell 2 _ rfl; have hrf2 := hr.frozen 2; have hrc3 := hr.cell 3 _ rfl; have hrf3 := hr.frozen 3; have hlc0 := hl.cell 0 _ rfl; have hlf0 := hl.frozen 0; clear hr hl hgW ho6 hg6 hat6 hlt6; go_wp2_with fail; refine bodyPost_end (v := .tuple #[]) (by simp [results, Tryz.results100, go_sem]) rfl ?_
   rw [HE.out.1, HE.out.2]; exact ⟨rfl, ⟨_, HP.out⟩, ((((HB.out.setCell (by exact HL.out.2.2) _).setCell (by exact HL.out.1) _).setCell (by exact HL.out.1) _).setCell (by exact HL.out.1) _).setCell (by exact HL.out.1) _⟩
theorem ToksAt.drop {w : World} {a : Option Addr} {n cap : Nat} {l : List Tok} (h : ToksAt w (.slice a n cap) l) {L : Nat} (h2 : L <= l.length) :
  ToksAt w (sliced a L l.length cap 3) (l.drop L) /\ (sliced a L l.length cap 3).ownBlock = (Value.slice a n cap).ownBlock := by
 obtain ⟨a', cap', he, h3, h4, h5, h6⟩ := h; cases he
 have hlen : (l.drop L).length = l.length - L := List.length_drop; unfold sliced; refine ⟨⟨_, _, by rw [hlen], by omega, by omega, fun hn => ?_, fun x hx hne => ?_⟩, ?_⟩
 ·cases a with
  | none => have := h5 rfl; omega
  | some x => split at hn <;> simp at hn
 ·cases a with
  | none => split at hx <;> simp at hx
  | some y =>
   have hl0 : l ≠ [] := by intro h0; subst h0; simp at hne
   obtain ⟨g1, g2, g3⟩ := h6 y rfl hl0; split at hx
   ·cases hx
    refine ⟨g1, g2, fun j hj => ?_⟩; rw [List.length_drop] at hj; omega
   ·simp at hx
    obtain ⟨b, off, sp⟩ := y; simp only at g1; subst g1; rw [Addr.add_lit] at hx; subst hx; refine ⟨rfl, g2, fun j hj => ?_⟩; rw [List.length_drop] at hj; have := g3 (L + j) (by omega)
    simp only [Nat.add_mul, <- Nat.add_assoc] at this; simp only [List.getElem_drop]; exact this
 ·cases a with
  | none => simp [Value.ownBlock]
  | some y => split <;> simp [Value.ownBlock, block_add]
section
variable {P : Program} {w : World} {ops : Array Oper} {rest : List Oper} {o : Oper} {a : Act} {Q : Exit -> Act -> World -> Prop}
theorem run_sizeOf_n {e : TypeId} {n : Nat} (h : (P.info? e).map (fun i => i.size) = some n) (w : World) : (sizeOf e).run P w = .ok n w := by
 obtain ⟨i, hi, hs⟩ := Option.map_eq_some_iff.1 h; simp [sizeOf, typeInfo, hi, hs]
theorem wpList_slice_tok (hgd : Region.wanted o (yielded ops a.tmps) = true) (x lo : Operand) (t : TypeId) (ho : o.op = .slice t x (some lo) none none)
  (ht : P.underlying t = some (.slice (P.elem t))) (hs : (P.info? (P.elem t)).map (fun i => i.size) = some 3)
  (l : List Tok) (hrow : ToksAt w (a.eval x) l) (k : IntKind) (n : Int) (L : Nat) (eL : a.eval lo = .int k n) (hL : n = L) (h2 : L <= l.length)
  (hK : ∀ v', ToksAt w v' (l.drop L) -> v'.ownBlock = (a.eval x).ownBlock -> wpList P ops Q rest (a.put o.dst v') w) : wpList P ops Q (o :: rest) a w := by
 obtain ⟨ao, cap, hv, h3, h4, h5⟩ := hrow.len; rw [hv] at hrow; obtain ⟨r1, r2⟩ := hrow.drop h2; refine wpList_want hgd fun K hK' => ?_; subst hL; have hrun := run_slice_l (P := P) w t ao l.length cap ht k (L : Int) (by omega) (by omega)
 unfold Oper.wp; simp only [execOp, ho, hv, eL, Option.map_some, Option.map_none, Sem.run_bind, run_sliceAt_slice (P := P) w t _ _ _ _ ht, hrun, run_sizeOf_n hs, Result.andThen, Sem.run_pure, Oper.upon_value, Int.toNat_natCast]; exact hK' _ _ (hK _ r1 (by rw [hv]; exact r2))
end
def KindP (g : Nat) (v : Value) (r : LnR) (w : World) (e : Ending) (w' : World) : Prop := Save g w w' /\ PBox w' g v (lnE r).1 (lnE r).2 /\ ∃ cs, e = .returned (.tuple #[.int .i64 (lnK r), .agg cs.toArray]) /\ ItmIn (fun b => w.heap.size <= b) w' (lnX r) cs /\ cs[6]? = some (.slice none 0 0)
abbrev zeroIC : List Value := [.bool false, .string ⟨#[]⟩, .string ⟨#[]⟩, .string ⟨#[]⟩, .slice none 0 0, .slice none 0 0, .slice none 0 0]
theorem ItmIn.zero (P : Nat -> Prop) (w : World) : ItmIn P w zeroI zeroIC := ItmIn.leaf (ExpIn.leaf _ _ _ _) RowIn.nil
theorem exp_shape {P : Nat -> Prop} {w : World} {t : Exp} {o s : ByteArray} {v : Value} (h : ExpIn P w t [.string o, .string s, v]) : ∃ a n c, v = .slice a n c := by
 obtain ⟨o2, s2, a, n, c, he⟩ := h.shape; simp only [List.cons.injEq, and_true] at he; exact ⟨a, n, c, he.2.2⟩
theorem exp_put {w3 : World} {B n q : Nat} {x : Exp} {cs vals : List Value} (hq : q < B) (hn : n <= B) (hx : ExpIn (fun b => B <= b) w3 x cs) : ExpIn (fun b => n <= b) (setAll w3 q 0 vals).drew x cs :=
 ExpIn.move (P := fun b => B <= b) (Q := fun b => n <= b) (w := w3) (w' := (setAll w3 q 0 vals).drew) (Nat.le_of_eq (setAll_size q vals 0 w3).symm) (fun b (hb : B <= b) _ => setAll_other q vals 0 w3 b (by omega)) (fun b (hb : B <= b) _ => Nat.le_trans hn hb) x cs hx
theorem lack_zero (row : List Tok) (stop : Int) (last : Bool) (i : Nat) : lnK (lackR row stop last i) = 0 /\ lnX (lackR row stop last i) = zeroI := by
 unfold lackR; split
 ·exact ⟨rfl, rfl⟩
 ·split <;> exact ⟨rfl, rfl⟩
theorem attribute_any (g : Nat) (v : Value) (t t2 : Tok) (row : List Tok) (lv : Value) (stop : Int) (last : Bool) (w : World) (h : PBox w g v 0 0) (hr : ToksAt w lv (t :: t2 :: row)) (ho : ∀ b, lv.ownBlock = some b -> b < w.heap.size) (hT : LexT w) (hn : row.length <= 900000) (hsh : ∀ t ∈ row, t.text.size <= 1048576) :
  Calls Tryz.prog 133 #[.pointer (some ⟨g, 0, none⟩), lineV lv stop last] w (KindP g v (attrK (t :: t2 :: row) stop last t.text) w) := by
 obtain ⟨ra, rc, rfl, hl1, hl2, -⟩ := hr.len; obtain ⟨N, hN⟩ : ∃ N, N = (t :: t2 :: row).length := ⟨_, rfl⟩; have hN2 : N = row.length + 2 := by rw [hN]; simp
 rw [<- hN] at hr hl1 ho ⊢; unfold maxLen at hl2; have hNle : N <= row.length + 2 /\ row.length + 2 <= N := by omega
 have HN := Lib.hid hN; clear hN hN2; obtain ⟨R, hR⟩ : ∃ R, R = attrK (t :: t2 :: row) stop last t.text := ⟨_, rfl⟩; have HR := Lib.hid hR; rw [<- hR]; clear hR; have hb1 : Below w.heap.size w ((w.alloc (.cells (lineC (.slice ra N rc) stop last) 86)).alloc (.cells zeroIC.toArray 54)) := ((Below.refl _ w).alloc (Nat.le_refl _) _).alloc (by simp) _
 have k0 := (Cells.new w (lineC (.slice ra N rc) stop last) 86).alloc (.cells zeroIC.toArray 54); have k1 := Cells.new (w.alloc (.cells (lineC (.slice ra N rc) stop last) 86)) zeroIC.toArray 54; simp only [World.size_alloc] at k1; have hP1 := h.below hb1 h.lt; have hr1 := hr.below hb1 (Nat.le_refl _); have hT1 := hT.below hb1; have hgw := h.lt; have hz1 : ((w.alloc (.cells (lineC (.slice ra N rc) stop last) 86)).alloc (.cells zeroIC.toArray 54)).heap.size = w.heap.size + 2 := by simp
 have HB := Lib.hid hb1; have HK := Lib.hid (And.intro k0 (And.intro k1 (And.intro hP1 (And.intro hr1 hT1)))); clear h hr hT hb1 k0 k1 hP1 hr1 hT1; go_enter Tryz.func133, Tryz.ntmps133; go_wp2_with (with_reducible first | refine stop_slice ?_)
 refine Stop.out ?_; obtain ⟨k0, k1, hP1, hr1, hT1⟩ := HK.out; generalize (w.alloc (.cells (lineC (.slice ra N rc) stop last) 86)).alloc (.cells zeroIC.toArray 54) = w1 at *; refine wpList_slice_tok rfl _ _ _ rfl Tryz.underlying22 (by kernel_rfl) (t :: t2 :: row) (by exact hr1) .i64 2 2 rfl rfl (by simp) ?_
 intro v' hv' hvb; simp only [List.drop_succ_cons, List.drop_zero] at hv'; obtain ⟨va, vc, rfl, -⟩ := hv'.len; have hE := exprParse_any w1 _ row hv' (fun b hb => by rw [hvb] at hb; exact Nat.lt_of_lt_of_le (ho b hb) HB.out.size) hT1.utf hT1.utf.pos (by omega) hsh
 clear hv' hvb; have HZ := Lib.hid hz1; clear hz1; go_wp2_with fail; refine hE.mono ?_; clear hE; rintro _ w2 ⟨hb2, o, tt, a, n, c, rfl, hX⟩; have hat := parE_at row; have hle := parE_le2 row; obtain ⟨⟨x, k, e⟩, hg⟩ : ∃ q, parE row = q := ⟨_, rfl⟩; have hRR := HR.out; unfold attrK at hRR; simp only [List.drop_succ_cons, List.drop_zero] at hRR; rw [hg] at hX hat hle hRR ⊢; simp only at hX hat hle hRR ⊢; rw [<- HN.out] at hRR; clear HR hg; have hal : Below w2.heap.size w2 (w2.alloc (.cells #[.string o, .string tt, .slice a n c] 52)) := (Below.refl _ _).alloc (Nat.le_refl _) _; have hb3 := hb2.trans (hal.mono hb2.size); have k3 := k0.below hb3 k0.lt; have q3 := k1.below hb3 k1.lt; have p3 := hP1.below hb3 hP1.lt; have r3 := hr1.below hb3 (Nat.le_refl _); have e3 := Cells.new w2 #[.string o, .string tt, .slice a n c] 52; have hs3 : Save g w (w2.alloc (.cells #[.string o, .string tt, .slice a n c] 52)) := (Save.of HB.out).trans (Save.of hb3); have hX3 : ExpIn (fun b => w.heap.size + 2 <= b) (w2.alloc (.cells #[.string o, .string tt, .slice a n c] 52)) x [.string o, .string tt, .slice a n c] := ExpIn.below hal _ _ (ExpIn.move (Nat.le_refl _) (fun _ _ _ => rfl) (fun b hb _ => by rw [<- HZ.out]; exact hb) _ _ hX)
 have hz3 : w.heap.size + 2 <= w2.heap.size := by rw [<- HZ.out]; exact hb2.size
 have HX3 := Lib.hid (And.intro hX3 hs3); have hHK := Lib.hid (And.intro k3 (And.intro q3 (And.intro p3 (And.intro r3 e3)))); have hk3l := k3.lt; have hq3l := q3.lt; have he3l := e3.lt; clear HK k0 k1 hP1 hr1 hT1 hb2 hb3 hal hX hX3 hs3 HB
 by_cases hc1 : e = 2 \/ (e = 0 /\ 2 + k < N)
 ·rw [if_pos hc1] at hRR
  have hL := lacks_any g v (t :: t2 :: row) (.slice ra N rc) stop last (2 + k) _ p3 r3 (by simp; omega)
  rw [show ((2 + k : Nat) : Int) = 2 + (k : Int) by omega, <- hRR] at hL
  have HRR := Lib.hid hRR; have h0 : lnK R = 0 /\ lnX R = zeroI := by rw [hRR]; exact lack_zero _ _ _ _
  have H0 := Lib.hid h0; clear hRR h0 r3 p3 hat; have k3c0 := k3.cell 0 _ rfl; have k3f0 := k3.frozen 0; have k3c1 := k3.cell 1 _ rfl; have k3f1 := k3.frozen 1; have k3c2 := k3.cell 2 _ rfl; have k3f2 := k3.frozen 2; have e3c0 := e3.cell 0 _ rfl; have e3f0 := e3.frozen 0; have e3c1 := e3.cell 1 _ rfl; have e3f1 := e3.frozen 1; have e3c2 := e3.cell 2 _ rfl; have e3f2 := e3.frozen 2; clear k3 q3 e3; simp only [lineV] at hL; rcases hc1 with rfl | ⟨rfl, hlt⟩
  ·go_wp2_with fail
   refine hL.mono ?_; clear hL k3c0 k3c1 k3c2 k3f0 k3f1 k3f2 e3c0 e3c1 e3c2 e3f0 e3f1 e3f2; rintro _ w4 ⟨rfl, hs4, p4⟩; have q4 := hs4.cells hHK.out.2.1 (by omega)
   have hl4 := q4.lt; have HP4 := Lib.hid (And.intro p4 (HX3.out.2.trans hs4)); have HQ4 := Lib.hid q4; have q4c0 := q4.cell 0 _ rfl; have q4f0 := q4.frozen 0; have q4c1 := q4.cell 1 _ rfl; have q4f1 := q4.frozen 1; have q4c2 := q4.cell 2 _ rfl; have q4f2 := q4.frozen 2; have q4c3 := q4.cell 3 _ rfl; have q4f3 := q4.frozen 3; have q4c4 := q4.cell 4 _ rfl; have q4f4 := q4.frozen 4; have q4c5 := q4.cell 5 _ rfl; have q4f5 := q4.frozen 5; have q4c6 := q4.cell 6 _ rfl; have q4f6 := q4.frozen 6; clear q4 p4 hs4; go_wp2_with fail; have hqq := HQ4.out.put zeroIC 0; have y0 := hqq.cell 0 (.bool false) rfl; have y1 := hqq.cell 1 (.string ⟨#[]⟩) rfl; have y2 := hqq.cell 2 (.string ⟨#[]⟩) rfl; have y3 := hqq.cell 3 (.string ⟨#[]⟩) rfl; have y4 := hqq.cell 4 (.slice none 0 0) rfl; have y5 := hqq.cell 5 (.slice none 0 0) rfl; have y6 := hqq.cell 6 (.slice none 0 0) rfl; simp only [setAll] at y0 y1 y2 y3 y4 y5 y6; refine bodyPost_ret (v := .tuple #[.int .i64 0, .agg #[.bool false, .string ⟨#[]⟩, .string ⟨#[]⟩, .string ⟨#[]⟩, .slice none 0 0, .slice none 0 0, .slice none 0 0]]) (by simp [results, Tryz.results133, go_sem, y0, y1, y2, y3, y4, y5, y6]) rfl ?_
   show KindP g v R w _ (setAll w4 (w.heap.size + 1) 0 zeroIC); exact ⟨HP4.out.2.setAllNew (by omega) _, HP4.out.1.setAllOther (by omega), zeroIC, by rw [H0.out.1], (by rw [H0.out.2]; exact ItmIn.zero _ _), rfl⟩
  ·have hd : decide ((2 : Int) + (k : Int) < (N : Int)) = true := by rw [decide_eq_true_iff]; omega
   go_wp2_with fail; refine hL.mono ?_; clear hL k3c0 k3c1 k3c2 k3f0 k3f1 k3f2 e3c0 e3c1 e3c2 e3f0 e3f1 e3f2; rintro _ w4 ⟨rfl, hs4, p4⟩; have q4 := hs4.cells hHK.out.2.1 (by omega)
   have hl4 := q4.lt; have HP4 := Lib.hid (And.intro p4 (HX3.out.2.trans hs4)); have HQ4 := Lib.hid q4; have q4c0 := q4.cell 0 _ rfl; have q4f0 := q4.frozen 0; have q4c1 := q4.cell 1 _ rfl; have q4f1 := q4.frozen 1; have q4c2 := q4.cell 2 _ rfl; have q4f2 := q4.frozen 2; have q4c3 := q4.cell 3 _ rfl; have q4f3 := q4.frozen 3; have q4c4 := q4.cell 4 _ rfl; have q4f4 := q4.frozen 4; have q4c5 := q4.cell 5 _ rfl; have q4f5 := q4.frozen 5; have q4c6 := q4.cell 6 _ rfl; have q4f6 := q4.frozen 6; clear q4 p4 hs4; go_wp2_with fail; have hqq := HQ4.out.put zeroIC 0; have y0 := hqq.cell 0 (.bool false) rfl; have y1 := hqq.cell 1 (.string ⟨#[]⟩) rfl; have y2 := hqq.cell 2 (.string ⟨#[]⟩) rfl; have y3 := hqq.cell 3 (.string ⟨#[]⟩) rfl; have y4 := hqq.cell 4 (.slice none 0 0) rfl; have y5 := hqq.cell 5 (.slice none 0 0) rfl; have y6 := hqq.cell 6 (.slice none 0 0) rfl; simp only [setAll] at y0 y1 y2 y3 y4 y5 y6; refine bodyPost_ret (v := .tuple #[.int .i64 0, .agg #[.bool false, .string ⟨#[]⟩, .string ⟨#[]⟩, .string ⟨#[]⟩, .slice none 0 0, .slice none 0 0, .slice none 0 0]]) (by simp [results, Tryz.results133, go_sem, y0, y1, y2, y3, y4, y5, y6]) rfl ?_
   show KindP g v R w _ (setAll w4 (w.heap.size + 1) 0 zeroIC); exact ⟨HP4.out.2.setAllNew (by omega) _, HP4.out.1.setAllOther (by omega), zeroIC, by rw [H0.out.1], (by rw [H0.out.2]; exact ItmIn.zero _ _), rfl⟩
 ·rw [if_neg hc1] at hRR
  have hx2 : e ≠ 2 := fun h => hc1 (.inl h)
  by_cases he : e = 0
  ·subst he
   have hk : k = row.length := by
    have : ¬ 2 + k < N := fun h => hc1 (.inr ⟨rfl, h⟩); omega
   rw [if_pos rfl] at hRR; have hd : decide ((2 : Int) + (k : Int) < (N : Int)) = false := by rw [decide_eq_false_iff_not]; omega
   obtain ⟨b, off, rfl, hlt, c0, c1, c2⟩ := r3.get (j := 0) (by simp)
   simp only [Nat.zero_mul, Nat.add_zero, List.getElem_cons_zero] at c0 c1 c2; have HRR := Lib.hid hRR; have HQ3 := Lib.hid q3; have HP3 := Lib.hid p3; clear hRR hk hc1 r3 p3 hat hx2; have k3c0 := k3.cell 0 _ rfl; have k3f0 := k3.frozen 0; have k3c1 := k3.cell 1 _ rfl; have k3f1 := k3.frozen 1; have k3c2 := k3.cell 2 _ rfl; have k3f2 := k3.frozen 2; have e3c0 := e3.cell 0 _ rfl; have e3f0 := e3.frozen 0; have e3c1 := e3.cell 1 _ rfl; have e3f1 := e3.frozen 1; have e3c2 := e3.cell 2 _ rfl; have e3f2 := e3.frozen 2; have q3c0 := q3.cell 0 _ rfl; have q3f0 := q3.frozen 0; have q3c1 := q3.cell 1 _ rfl; have q3f1 := q3.frozen 1; have q3c2 := q3.cell 2 _ rfl; have q3f2 := q3.frozen 2; have q3c3 := q3.cell 3 _ rfl; have q3f3 := q3.frozen 3; have q3c4 := q3.cell 4 _ rfl; have q3f4 := q3.frozen 4; have q3c5 := q3.cell 5 _ rfl; have q3f5 := q3.frozen 5; have q3c6 := q3.cell 6 _ rfl; have q3f6 := q3.frozen 6; clear k3 q3 e3; go_wp2_with fail; go_region
   all_goals
    go_wp2_with fail; have hqq := (HQ3.out.put [.bool false, .string t.text, .string o, .string tt, .slice a n c, .slice none 0 0, .slice none 0 0] 0).drew; have y0 := hqq.cell 0 (.bool false) rfl; have y1 := hqq.cell 1 (.string t.text) rfl; have y2 := hqq.cell 2 (.string o) rfl; have y3 := hqq.cell 3 (.string tt) rfl; have y4 := hqq.cell 4 (.slice a n c) rfl; have y5 := hqq.cell 5 (.slice none 0 0) rfl; have y6 := hqq.cell 6 (.slice none 0 0) rfl; simp only [setAll] at y0 y1 y2 y3 y4 y5 y6; refine bodyPost_ret (v := .tuple #[.int .i64 2, .agg #[.bool false, .string t.text, .string o, .string tt, .slice a n c, .slice none 0 0, .slice none 0 0]]) (by simp [results, Tryz.results133, go_sem, y0, y1, y2, y3, y4, y5, y6]) rfl ?_
    show KindP g v R w _ (setAll (w2.alloc (.cells #[.string o, .string tt, .slice a n c] 52)) (w.heap.size + 1) 0 [.bool false, .string t.text, .string o, .string tt, .slice a n c, .slice none 0 0, .slice none 0 0]).drew; rw [HRR.out]; refine ⟨(HX3.out.2.setAllNew (by omega) _).drew, (HP3.out.setAllOther (by omega)).drew, [.bool false, .string t.text, .string o, .string tt, .slice a n c, .slice none 0 0, .slice none 0 0], rfl, ?_⟩
    refine ⟨ItmIn.leaf ?_ RowIn.nil, rfl⟩; exact exp_put (q := w.heap.size + 1) (B := w.heap.size + 2) (by omega) (by omega) HX3.out.1
  ·rw [if_neg he] at hRR
   have hkl := hat he hx2; have hlt : 2 + k < (t :: t2 :: row).length := by simp; omega
   rw [List.getElem?_eq_getElem hlt] at hRR; obtain ⟨b, off, rfl, hlt2, c0, c1, c2⟩ := r3.get (j := 2 + k) hlt; simp only at hRR; generalize (t :: t2 :: row)[2 + k] = tk at *; have hF := bfail_any g v 0 0 tk.pos e _ p3; have hqe : (e == 0) = false := by simpa using he
   have hqn : (e != 0) = true := by simpa using he
   have hq2 : (e == 2) = false := by simpa using hx2
   have HRR := Lib.hid hRR; clear hRR r3 p3 hat hc1 he hx2 hlt; have k3c0 := k3.cell 0 _ rfl; have k3f0 := k3.frozen 0; have k3c1 := k3.cell 1 _ rfl; have k3f1 := k3.frozen 1; have k3c2 := k3.cell 2 _ rfl; have k3f2 := k3.frozen 2; have e3c0 := e3.cell 0 _ rfl; have e3f0 := e3.frozen 0; have e3c1 := e3.cell 1 _ rfl; have e3f1 := e3.frozen 1; have e3c2 := e3.cell 2 _ rfl; have e3f2 := e3.frozen 2; clear k3 q3 e3; have hd1 : (2 : Int) + (k : Int) < (N : Int) := by omega
   have ha2 : off + (2 + k) * 3 = off + (2 + k) * 3 := rfl; go_wp2_with fail; refine hF.mono ?_; clear hF k3c0 k3c1 k3c2 k3f0 k3f1 k3f2 e3c0 e3c1 e3c2 e3f0 e3f1 e3f2 c0 c1 c2; rintro _ w4 ⟨rfl, p4, hw4⟩; have hs4 : Save g (w2.alloc (.cells #[.string o, .string tt, .slice a n c] 52)) w4 := by rw [hw4]; exact ((Save.refl _ _).set _ _).set _ _
   clear hw4; have H0 : Hid (lnK R = 0 /\ lnX R = zeroI) := Lib.hid (by rw [HRR.out]; exact ⟨rfl, rfl⟩)
   have p4 : PBox w4 g v (lnE R).1 (lnE R).2 := by rw [HRR.out]; exact p4
   have q4 := hs4.cells hHK.out.2.1 (by omega)
   have hl4 := q4.lt; have HP4 := Lib.hid (And.intro p4 (HX3.out.2.trans hs4)); have HQ4 := Lib.hid q4; have q4c0 := q4.cell 0 _ rfl; have q4f0 := q4.frozen 0; have q4c1 := q4.cell 1 _ rfl; have q4f1 := q4.frozen 1; have q4c2 := q4.cell 2 _ rfl; have q4f2 := q4.frozen 2; have q4c3 := q4.cell 3 _ rfl; have q4f3 := q4.frozen 3; have q4c4 := q4.cell 4 _ rfl; have q4f4 := q4.frozen 4; have q4c5 := q4.cell 5 _ rfl; have q4f5 := q4.frozen 5; have q4c6 := q4.cell 6 _ rfl; have q4f6 := q4.frozen 6; clear q4 p4 hs4; go_wp2_with fail; have hqq := HQ4.out.put zeroIC 0; have y0 := hqq.cell 0 (.bool false) rfl; have y1 := hqq.cell 1 (.string ⟨#[]⟩) rfl; have y2 := hqq.cell 2 (.string ⟨#[]⟩) rfl; have y3 := hqq.cell 3 (.string ⟨#[]⟩) rfl; have y4 := hqq.cell 4 (.slice none 0 0) rfl; have y5 := hqq.cell 5 (.slice none 0 0) rfl; have y6 := hqq.cell 6 (.slice none 0 0) rfl; simp only [setAll] at y0 y1 y2 y3 y4 y5 y6; refine bodyPost_ret (v := .tuple #[.int .i64 0, .agg #[.bool false, .string ⟨#[]⟩, .string ⟨#[]⟩, .string ⟨#[]⟩, .slice none 0 0, .slice none 0 0, .slice none 0 0]]) (by simp [results, Tryz.results133, go_sem, y0, y1, y2, y3, y4, y5, y6]) rfl ?_
   show KindP g v R w _ (setAll w4 (w.heap.size + 1) 0 zeroIC); exact ⟨HP4.out.2.setAllNew (by omega) _, HP4.out.1.setAllOther (by omega), zeroIC, by rw [H0.out.1], (by rw [H0.out.2]; exact ItmIn.zero _ _), rfl⟩
end Go.Proofs.YtbcdaaobbebooaaGreatDoor
