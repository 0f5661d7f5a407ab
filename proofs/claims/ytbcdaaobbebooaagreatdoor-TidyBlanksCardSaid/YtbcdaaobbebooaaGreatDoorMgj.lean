/- Texts of this claim, one behind the other: BoD, BoE, BoEa, BoEb, BoF, BoG, BoH, BoJ, BoL, BoMa. -/
import Derived.Test.YtbcdaaobbebooaaGreatDoorMgh
import Derived.Test.YtbcdaaobbebooaaGreatDoorMgi
import Derived.Deep.AppendLies
import Derived.Deep.MidRow
set_option linter.unusedSimpArgs false
set_option linter.unusedVariables false
namespace Go.Proofs.YtbcdaaobbebooaaGreatDoor
set_option maxRecDepth 100000
set_option maxHeartbeats 20000000
open Go.RowKit Go.Tab
def LsAt (row : List Tok) (m : Nat) (pre : List ByteArray) : Prop := pre.length = m /\ labs row = pre ++ labs (row.drop m)
theorem LsAt.zero (row : List Tok) : LsAt row 0 [] := ⟨rfl, rfl⟩
theorem LsAt.step {row : List Tok} {m : Nat} {pre : List ByteArray} (h : LsAt row m pre) (hm : m < row.length) (h3 : row[m].kind = 3) {x : ByteArray} (hx : quoX row[m].text = some x) : LsAt row (m + 1) (pre ++ [x]) := by
 refine ⟨by simp [h.1], ?_⟩
 rw [h.2, List.drop_eq_getElem_cons hm, labs, if_pos h3, hx]; simp
theorem LsAt.stop {row : List Tok} {m : Nat} {pre : List ByteArray} (h : LsAt row m pre) (hm : m < row.length) (h3 : row[m].kind ≠ 3) : labs row = pre /\ pre.length = m := by
 refine ⟨?_, h.1⟩; rw [h.2, List.drop_eq_getElem_cons hm, labs, if_neg h3, List.append_nil]
theorem LsAt.done {row : List Tok} {m : Nat} {pre : List ByteArray} (h : LsAt row m pre) (hm : row.length <= m) : labs row = pre /\ pre.length = m := by
 refine ⟨?_, h.1⟩; rw [h.2, List.drop_eq_nil_of_le hm, labs, List.append_nil]
theorem Tryz.infoStr : (Tryz.prog.info? 9).map (fun i => (i.zero, i.size, i.bytes)) = some (some (.string ⟨#[]⟩), 1, 16) := by kernel_rfl
def BlkS (w W : World) (line xc : Array Value) (v : Value) (pre : List ByteArray) : Prop := Below w.heap.size w W /\ Cells W w.heap.size line 86 /\ Cells W (w.heap.size + 1) zeroIC.toArray 54 /\ Cells W (w.heap.size + 2) xc 54 /\ OwnOf Value.string 9 (w.heap.size + 3) W v pre /\ w.heap.size + 3 <= W.heap.size
theorem BlkS.step {w W W' : World} {line xc : Array Value} {v : Value} {pre : List ByteArray} (h : BlkS w W line xc v pre) (hb : Below W.heap.size W W') : BlkS w W' line xc v pre :=
 ⟨h.1.trans (hb.mono h.1.size), h.2.1.below hb h.2.1.lt, h.2.2.1.below hb h.2.2.1.lt, h.2.2.2.1.below hb h.2.2.2.1.lt, h.2.2.2.2.1.below hb (Nat.le_refl _), Nat.le_trans h.2.2.2.2.2 hb.size⟩
theorem row_put {w3 : World} {B n q : Nat} {v : Value} {l : List ByteArray} {vals : List Value} (hq : q < B) (hn : n <= B) (hx : OwnOf Value.string 9 B w3 v l) : RowIn (fun b => n <= b) (setAll w3 q 0 vals).drew v l := by
 have ho : OwnOf Value.string 9 B (setAll w3 q 0 vals).drew v l := hx.moved (fun k hk => setAll_other q vals 0 w3 k (by have := (World.ownsRow.lt hx k hk).1; omega))
 exact ⟨ho.row, fun k hk => by have h9 := World.ownsRow.lt ho k hk; exact ⟨Nat.le_trans hn h9.1, h9.2⟩⟩
theorem block_any (g : Nat) (oa : Option Addr) (n oc : Nat) (t : Tok) (row : List Tok) (lv : Value) (stop : Int) (last : Bool) (w : World) (h : PBox w g (.slice oa n oc) 0 0) (hr : ToksAt w lv (t :: row)) (hT : Tab w) (hTg : 1 < w.heap.size) (hn : row.length <= 900000) (hsh : ∀ t ∈ row, t.text.size <= 1048576) (hq : ∀ t ∈ row, t.kind = 3 -> quoX t.text ≠ none) :
    Calls Tryz.prog 134 #[.pointer (some ⟨g, 0, none⟩), lineV lv stop last] w (KindP g (.slice oa n oc) (blockK n (t :: row) stop last t.text) w) := by
  obtain ⟨ra, rc, rfl, hl1, hl2, -⟩ := hr.len; obtain ⟨N, hN⟩ : ∃ N, N = (t :: row).length := ⟨_, rfl⟩; have hNle : N <= row.length + 1 /\ row.length + 1 <= N := by rw [hN]; simp
  rw [<- hN] at hr hl1 ⊢; unfold maxLen at hl2; have HN := Lib.hid hN; clear hN; obtain ⟨R, hR⟩ : ∃ R, R = blockK n (t :: row) stop last t.text := ⟨_, rfl⟩; have HR := Lib.hid hR; rw [<- hR]; clear hR; have hgw := h.lt; obtain ⟨b, off, rfl, hlt, c0, c1, c2⟩ := hr.get (j := 0) (by simp)
  simp only [Nat.zero_mul, Nat.add_zero, List.getElem_cons_zero] at c0 c1 c2; have H0 := Lib.hid (And.intro h (And.intro hr hT)); clear h hr hT; go_enter Tryz.func134, Tryz.ntmps134; go_wp2_with fail
  have hbA : Below w.heap.size w (((w.alloc (.cells (lineC (.slice (some ⟨b, off, none⟩) N rc) stop last) 86)).alloc (.cells zeroIC.toArray 54)).alloc (.cells #[.bool true, .string t.text, .string ⟨#[]⟩, .string ⟨#[]⟩, .slice none 0 0, .slice none 0 0, .slice none 0 0] 54)) :=
    (((Below.refl _ w).alloc (Nat.le_refl _) _).alloc (by simp) _).alloc (by simp only [World.size_alloc]; omega) _
  have kA := ((Cells.new w (lineC (.slice (some ⟨b, off, none⟩) N rc) stop last) 86).alloc (.cells zeroIC.toArray 54)).alloc (.cells #[.bool true, .string t.text, .string ⟨#[]⟩, .string ⟨#[]⟩, .slice none 0 0, .slice none 0 0, .slice none 0 0] 54); have kB := (Cells.new (w.alloc (.cells (lineC (.slice (some ⟨b, off, none⟩) N rc) stop last) 86)) zeroIC.toArray 54).alloc (.cells #[.bool true, .string t.text, .string ⟨#[]⟩, .string ⟨#[]⟩, .slice none 0 0, .slice none 0 0, .slice none 0 0] 54); have kC := Cells.new ((w.alloc (.cells (lineC (.slice (some ⟨b, off, none⟩) N rc) stop last) 86)).alloc (.cells zeroIC.toArray 54)) #[.bool true, .string t.text, .string ⟨#[]⟩, .string ⟨#[]⟩, .slice none 0 0, .slice none 0 0, .slice none 0 0] 54; simp only [World.size_alloc] at kB kC; have hzA : (((w.alloc (.cells (lineC (.slice (some ⟨b, off, none⟩) N rc) stop last) 86)).alloc (.cells zeroIC.toArray 54)).alloc (.cells #[.bool true, .string t.text, .string ⟨#[]⟩, .string ⟨#[]⟩, .slice none 0 0, .slice none 0 0, .slice none 0 0] 54)).heap.size = w.heap.size + 3 := by simp
  generalize ((w.alloc (.cells (lineC (.slice (some ⟨b, off, none⟩) N rc) stop last) 86)).alloc (.cells zeroIC.toArray 54)).alloc (.cells #[.bool true, .string t.text, .string ⟨#[]⟩, .string ⟨#[]⟩, .slice none 0 0, .slice none 0 0, .slice none 0 0] 54) = wA at *; have HA := Lib.hid (And.intro hbA (And.intro kA (And.intro kB (And.intro kC hzA)))); clear hbA kA kB kC hzA
  go_loopw [4, 7, 8, 9] (fun _ iv _ _ wr => ∃ (m : Nat) (pre : List ByteArray) (v : Value), m <= row.length /\ iv = .int .i64 ((1 + m : Nat) : Int) /\ LsAt row m pre /\ Below w.heap.size w wr /\ Cells wr w.heap.size (lineC (.slice (some ⟨b, off, none⟩) N rc) stop last) 86 /\
      Cells wr (w.heap.size + 1) zeroIC.toArray 54 /\ Cells wr (w.heap.size + 2) #[.bool true, .string t.text, .string ⟨#[]⟩, .string ⟨#[]⟩, .slice none 0 0, v, .slice none 0 0] 54 /\ OwnOf Value.string 9 (w.heap.size + 3) wr v pre /\ w.heap.size + 3 <= wr.heap.size) (fun _ iv _ _ _ => N - (intOf iv).toNat)
  case atStart => exact ⟨0, [], _, Nat.zero_le _, rfl, LsAt.zero _, HA.out.1, HA.out.2.1, HA.out.2.2.1, HA.out.2.2.2.1, OwnOf.nil, by rw [HA.out.2.2.2.2]; exact Nat.le_refl _⟩
  case round =>
    clear HA c0 c1 c2 hlt; obtain ⟨m, pre, v, hm, rfl, hls, hbl, k0, k1, k2, hown, hz⟩ := hrel; obtain ⟨hp0, hr0, hT0⟩ := H0.out; have hp := hp0.below hbl hgw; have hr := hr0.below hbl (Nat.le_refl _); have hT1 := hT0.below hbl hTg; have hlen : pre.length <= row.length := by rw [hls.1]; exact hm
    have HLS := Lib.hid hls; obtain ⟨M, hM⟩ : ∃ M, M = 1 + m := ⟨_, rfl⟩; have hMle : M <= 1 + m /\ 1 + m <= M := by omega
    rw [<- hM]; have hk0l := k0.lt; have hk1l := k1.lt; have hk2l := k2.lt
    by_cases hlab : ∃ h : m < row.length, row[m].kind = 3
    . obtain ⟨hml, h3⟩ := hlab
      have hfl : M < (t :: row).length := by simp; omega
      have hfe : (t :: row)[M] = row[m] := by subst hM; simp [Nat.add_comm 1]
      obtain ⟨bb, ob, he, hlt, c0, c1, c2⟩ := hr.get hfl; cases he
      rw [hfe] at c0 c1 c2; rw [h3] at c0; obtain ⟨x, hx, hpv⟩ := (quo_parse row[m].text).resolve_left (fun h => hq _ (List.getElem_mem _) h3 h.1); have hQ := Parse_any row[m].text wr (by have := hsh _ (List.getElem_mem hml); omega) hT1
      rw [hpv] at hQ; have HST := Lib.hid (HLS.out.step hml h3 hx); have hdec : decide ((M : Int) < (N : Int)) = true := by rw [decide_eq_true_iff]; omega
      obtain ⟨va, vc, rfl, -⟩ := hown.row.len; generalize row[m] = tk at *; have HK := Lib.hid (And.intro k0 (And.intro k1 (And.intro k2 (And.intro hown hbl)))); have k0c0 := k0.cell 0 _ rfl; have k0f0 := k0.frozen 0; have k0c1 := k0.cell 1 _ rfl; have k0f1 := k0.frozen 1; have k0c2 := k0.cell 2 _ rfl; have k0f2 := k0.frozen 2; have k2c0 := k2.cell 0 _ rfl; have k2f0 := k2.frozen 0; have k2c1 := k2.cell 1 _ rfl; have k2f1 := k2.frozen 1; have k2c2 := k2.cell 2 _ rfl; have k2f2 := k2.frozen 2; have k2c3 := k2.cell 3 _ rfl; have k2f3 := k2.frozen 3; have k2c4 := k2.cell 4 _ rfl; have k2f4 := k2.frozen 4; have k2c5 := k2.cell 5 _ rfl; have k2f5 := k2.frozen 5; have k2c6 := k2.cell 6 _ rfl; have k2f6 := k2.frozen 6; clear k0 k1 k2 hown hbl hls hp0 hr0 hT0 hp hr hT1 hfe hpv hM; go_wp2_with fail; refine hQ.mono ?_; clear hQ k0c0 k0c1 k0c2 k0f0 k0f1 k0f2 k2c0 k2c1 k2c2 k2c3 k2c4 k2c5 k2c6 k2f0 k2f1 k2f2 k2f3 k2f4 k2f5 k2f6 c0 c1 c2; rintro _ w2 ⟨rfl, hb2⟩; obtain ⟨k0, k1, k2, hown, hbl⟩ := HK.out; have k22 := k2.below hb2 k2.lt; have own2 := hown.below hb2 (Nat.le_refl _); have hz2 := hb2.size; have hl22 := k22.lt; have HK2 := Lib.hid (And.intro (k0.below hb2 k0.lt) (And.intro (k1.below hb2 k1.lt) (And.intro k22 (hbl.trans (hb2.mono hbl.size))))); clear k0 k1 k2 hown hbl hb2; have k22c0 := k22.cell 0 _ rfl; have k22f0 := k22.frozen 0; have k22c1 := k22.cell 1 _ rfl; have k22f1 := k22.frozen 1; have k22c2 := k22.cell 2 _ rfl; have k22f2 := k22.frozen 2; have k22c3 := k22.cell 3 _ rfl
      have k22f3 := k22.frozen 3; have k22c4 := k22.cell 4 _ rfl; have k22f4 := k22.frozen 4; have k22c5 := k22.cell 5 _ rfl; have k22f5 := k22.frozen 5; have k22c6 := k22.cell 6 _ rfl; have k22f6 := k22.frozen 6; go_wp2_with (with_reducible first | refine stop_append ?_)
      refine Stop.out ?_; have hlit := OwnOf.lit (f := Value.string) (E := 9) (base := w2.heap.size) (w := w2) [x] (Nat.le_refl _) (by simp [maxLen])
      refine wpList_append_row rfl _ _ _ rfl (w.heap.size + 3) 9 16 (.string ⟨#[]⟩) Tryz.underlying34 Tryz.infoStr rfl (fun _ => rfl) pre [x] (by exact own2.alloc _) hlit.row (by simp; unfold maxLen; omega) (by simp; omega) (by simp; omega) (w2.alloc (.cells #[.string x] 9)) (Below.refl _ _) ?_
      intro v3 w3 own3 hb3 hg3; obtain ⟨va3, vc3, rfl, -⟩ := own3.row.len; have hrow : ∀ k, (Value.slice va pre.length vc).ownBlock = some k -> w.heap.size + 3 <= k := fun k hk => (World.ownsRow.lt own2 k hk).1; have q22 := (k22.alloc (.cells #[.string x] 9)).below hb3 (by omega)
      have hl33 := q22.lt; have HX := Lib.hid (And.intro own3 hb3); clear own3 hg3 k22 k22c0 k22c1 k22c2 k22c3 k22c4 k22c5 k22c6 k22f0 k22f1 k22f2 k22f3 k22f4 k22f5 k22f6 own2 hlit hb3; have HQ22 := Lib.hid q22; have q22c0 := q22.cell 0 _ rfl; have q22f0 := q22.frozen 0; have q22c1 := q22.cell 1 _ rfl; have q22f1 := q22.frozen 1; have q22c2 := q22.cell 2 _ rfl; have q22f2 := q22.frozen 2; have q22c3 := q22.cell 3 _ rfl; have q22f3 := q22.frozen 3; have q22c4 := q22.cell 4 _ rfl; have q22f4 := q22.frozen 4; have q22c5 := q22.cell 5 _ rfl; have q22f5 := q22.frozen 5; have q22c6 := q22.cell 6 _ rfl; have q22f6 := q22.frozen 6; clear q22; go_wp2; go_roundw
      case rel =>
        obtain ⟨own3, hb3⟩ := HX.out; obtain ⟨k0, k1, k2, hbl⟩ := HK2.out; have hs3 := hb3.size; simp only [World.size_alloc] at hs3; have hbx : Below w.heap.size w w3 := (hbl.alloc (by omega) (.cells #[.string x] 9)).trans (hb3.mono (by omega))
        refine ⟨m + 1, _, _, by omega, by go_num, HST.out, hbx.setCell (by show w.heap.size <= w.heap.size + 2; omega) _,
          ((k0.alloc _).below hb3 (by omega)).setOther _ _ (by show w.heap.size + 2 ≠ _; omega), ((k1.alloc _).below hb3 (by omega)).setOther _ _ (by show w.heap.size + 2 ≠ _; omega), HQ22.out.setI 5 _, ?_, by rw [World.size_setCell]; omega⟩
        have ho := own3.setOther ⟨w.heap.size + 2, 5, none⟩ (.slice va3 (pre ++ [x]).length vc3) (fun h => by have h9 : w.heap.size + 3 <= w.heap.size + 2 := (World.ownsRow.lt own3 _ h).1; omega)
        simp only [List.length_append, List.length_cons, List.length_nil, Nat.zero_add] at ho; exact ho
      case measure => simp [intOf]; omega
    . have hend : labs row = pre /\ pre.length = m := by
        by_cases hml : m < row.length
        . exact hls.stop hml (fun h3 => hlab ⟨hml, h3⟩)
        . exact hls.done (by omega)
      have hRB := HR.out; unfold blockK at hRB; simp only [List.drop_succ_cons, List.drop_zero, hend.1, hend.2] at hRB; rw [<- hM] at hRB; obtain ⟨va, vc, rfl, -⟩ := hown.row.len; have HRB := Lib.hid hRB; have HS := Lib.hid (show BlkS w wr (lineC (.slice (some ⟨b, off, none⟩) N rc) stop last) #[.bool true, .string t.text, .string ⟨#[]⟩, .string ⟨#[]⟩, .slice none 0 0, .slice va pre.length vc, .slice none 0 0] (.slice va pre.length vc) pre from ⟨hbl, k0, k1, k2, hown, hz⟩); clear hend hRB hls HLS HR hbl k0 k1 k2 hown hp0 hr0 hT0 hT1 hp hM
      by_cases hml : m < row.length
      . have hfl : M < (t :: row).length := by simp; omega
        have hfe : (t :: row)[M] = row[m] := by have hM : M = 1 + m := by omega
                                                subst hM; simp [Nat.add_comm 1]
        obtain ⟨bb, ob, he, hlt, c0, c1, c2⟩ := hr.get hfl; cases he
        have h3 : ((t :: row)[M].kind == 3) = false := by
          rw [beq_eq_false_iff_ne, hfe]; exact fun h3 => hlab ⟨hml, h3⟩
        have hdec : decide ((M : Int) < (N : Int)) = true := by rw [decide_eq_true_iff]; omega
        have heq : ((M : Int) == (N : Int)) = false := by rw [beq_eq_false_iff_ne]; omega
        have hg0 : (t :: row)[M]? = some (t :: row)[M] := List.getElem?_eq_getElem hfl; have hdr : (t :: row).drop M = (t :: row)[M] :: (t :: row).drop (M + 1) := List.drop_eq_getElem_cons hfl; generalize (t :: row)[M] = tk at *; have HDR := Lib.hid (And.intro hg0 hdr); have hSg := sign_tok tk sLc wr; clear hfe hlab hg0 hdr; obtain ⟨kk, kt, kp⟩ := tk; simp only [tokV] at hSg; simp only at c0 c1 c2 h3; obtain ⟨hbl, k0, k1, k2, hown, hz9⟩ := HS.out; have k0c0 := k0.cell 0 _ rfl; have k0f0 := k0.frozen 0; have k0c1 := k0.cell 1 _ rfl; have k0f1 := k0.frozen 1; have k0c2 := k0.cell 2 _ rfl; have k0f2 := k0.frozen 2; clear hbl k0 k1 k2 hown hz9 hr; go_wp2_with fail; refine hSg.mono ?_; clear hSg c0 c1 c2 k0c0 k0c1 k0c2 k0f0 k0f1 k0f2; rintro _ w2 ⟨rfl, hb2⟩; have HS2 := Lib.hid (HS.out.step hb2); clear hb2 HS hz hlt hk0l hk1l hk2l; have hRB := HRB.out; rw [HDR.out.1, HDR.out.2, isS_cons] at hRB; clear HRB
        by_cases hsg : signT ⟨kk, kt, kp⟩ sLc = false
        . rw [if_pos hsg] at hRB
          rw [hsg]; have HRR := Lib.hid hRB; clear hRB; obtain ⟨hbl, k0, k1, k2, hown, hz9⟩ := HS2.out; have hL := lacks_any g (.slice oa n oc) (t :: row) (.slice (some ⟨b, off, none⟩) N rc) stop last (M) _ (H0.out.1.below hbl hgw) (H0.out.2.1.below hbl (Nat.le_refl _)) (by simp; omega)
          rw [<- HRR.out, show (((M : Nat)) : Int) = (M : Int) by omega] at hL
          have H9 : Hid (lnK R = 0 /\ lnX R = zeroI) := Lib.hid (by rw [HRR.out]; exact lack_zero _ _ _ _)
          simp only [lineV] at hL; have hl0 := k0.lt; have k0c0 := k0.cell 0 _ rfl; have k0f0 := k0.frozen 0; have k0c1 := k0.cell 1 _ rfl; have k0f1 := k0.frozen 1; have k0c2 := k0.cell 2 _ rfl; have k0f2 := k0.frozen 2; clear hbl k0 k1 k2 hown; go_wp2_with fail; refine hL.mono ?_; clear hL k0c0 k0c1 k0c2 k0f0 k0f1 k0f2; rintro _ w4 ⟨rfl, hs4, p4⟩; obtain ⟨hbl, k0, k1, k2, hown, -⟩ := HS2.out; have q4 := hs4.cells k1 (by omega)
          have hl4 := q4.lt; have HP4 := Lib.hid (And.intro p4 ((Save.of hbl).trans hs4)); have HQ4 := Lib.hid q4; have q4c0 := q4.cell 0 _ rfl; have q4f0 := q4.frozen 0; have q4c1 := q4.cell 1 _ rfl; have q4f1 := q4.frozen 1; have q4c2 := q4.cell 2 _ rfl; have q4f2 := q4.frozen 2; have q4c3 := q4.cell 3 _ rfl; have q4f3 := q4.frozen 3; have q4c4 := q4.cell 4 _ rfl; have q4f4 := q4.frozen 4; have q4c5 := q4.cell 5 _ rfl; have q4f5 := q4.frozen 5; have q4c6 := q4.cell 6 _ rfl; have q4f6 := q4.frozen 6; clear q4 p4 hs4 hbl k0 k1 k2 hown; go_wp2_with fail; have hqq := HQ4.out.put zeroIC 0; have y0 := hqq.cell 0 (.bool false) rfl; have y1 := hqq.cell 1 (.string ⟨#[]⟩) rfl; have y2 := hqq.cell 2 (.string ⟨#[]⟩) rfl; have y3 := hqq.cell 3 (.string ⟨#[]⟩) rfl; have y4 := hqq.cell 4 (.slice none 0 0) rfl; have y5 := hqq.cell 5 (.slice none 0 0) rfl; have y6 := hqq.cell 6 (.slice none 0 0) rfl; simp only [setAll] at y0 y1 y2 y3 y4 y5 y6; refine bodyPost_ret (v := .tuple #[.int .i64 0, .agg #[.bool false, .string ⟨#[]⟩, .string ⟨#[]⟩, .string ⟨#[]⟩, .slice none 0 0, .slice none 0 0, .slice none 0 0]]) (by simp [results, Tryz.results134, go_sem, y0, y1, y2, y3, y4, y5, y6]) rfl ?_
          show KindP g (.slice oa n oc) R w _ (setAll w4 (w.heap.size + 1) 0 zeroIC); exact ⟨HP4.out.2.setAllNew (by omega) _, HP4.out.1.setAllOther (by omega), zeroIC, by rw [H9.out.1], (by rw [H9.out.2]; exact ItmIn.zero _ _), rfl⟩
        . rw [if_neg hsg] at hRB
          have hsg2 : signT ⟨kk, kt, kp⟩ sLc = true := by simpa using hsg
          rw [hsg2]; clear hsg hsg2
          by_cases hdp : 64 < n
          . rw [if_pos hdp] at hRB
            simp only at hRB; have hdd : decide ((64 : Int) < (n : Int)) = true := by rw [decide_eq_true_iff]; omega
            have HRR := Lib.hid hRB; obtain ⟨hbl, k0, k1, k2, hown, hz9⟩ := HS2.out; have hp2 := H0.out.1.below hbl hgw; obtain ⟨bb, ob, he, hlt, c0, c1, c2⟩ := (H0.out.2.1.below hbl (Nat.le_refl _)).get hfl; cases he
            have hpos : (t :: row)[M].pos = kp := by
              have := HDR.out.1; rw [List.getElem?_eq_getElem hfl] at this; rw [Option.some.inj this]
            rw [hpos] at c2; have hF := bfail_any g (.slice oa n oc) 0 0 kp 5 _ hp2; have hl0 := k0.lt; have hgl := hp2.lt; have hpc := hp2.cell 0 _ rfl; have k0c0 := k0.cell 0 _ rfl; have k0f0 := k0.frozen 0; have k0c1 := k0.cell 1 _ rfl; have k0f1 := k0.frozen 1; have k0c2 := k0.cell 2 _ rfl; have k0f2 := k0.frozen 2; clear hRB hbl k0 k1 k2 hown hp2 c0 c1 hpos hdp; go_wp2_with fail; refine hF.mono ?_; clear hF k0c0 k0c1 k0c2 k0f0 k0f1 k0f2 c2 hpc; rintro _ w4 ⟨rfl, p4, hw4⟩; obtain ⟨hbl, k0, k1, k2, hown, -⟩ := HS2.out; have hs4 : Save g w2 w4 := by rw [hw4]; exact ((Save.refl _ _).set _ _).set _ _
            have q4 := hs4.cells k1 (by omega)
            have hl4 := q4.lt; have p4 : PBox w4 g (.slice oa n oc) (lnE R).1 (lnE R).2 := by rw [HRR.out]; exact p4
            have HP4 := Lib.hid (And.intro p4 ((Save.of hbl).trans hs4)); have HQ4 := Lib.hid q4; have H9 : Hid (lnK R = 0 /\ lnX R = zeroI) := Lib.hid (by rw [HRR.out]; exact ⟨rfl, rfl⟩)
            have q4c0 := q4.cell 0 _ rfl; have q4f0 := q4.frozen 0; have q4c1 := q4.cell 1 _ rfl; have q4f1 := q4.frozen 1; have q4c2 := q4.cell 2 _ rfl; have q4f2 := q4.frozen 2; have q4c3 := q4.cell 3 _ rfl; have q4f3 := q4.frozen 3; have q4c4 := q4.cell 4 _ rfl; have q4f4 := q4.frozen 4; have q4c5 := q4.cell 5 _ rfl; have q4f5 := q4.frozen 5; have q4c6 := q4.cell 6 _ rfl; have q4f6 := q4.frozen 6; clear q4 p4 hs4 hbl k0 k1 k2 hown hw4; go_wp2_with fail; have hqq := HQ4.out.put zeroIC 0; have y0 := hqq.cell 0 (.bool false) rfl; have y1 := hqq.cell 1 (.string ⟨#[]⟩) rfl; have y2 := hqq.cell 2 (.string ⟨#[]⟩) rfl; have y3 := hqq.cell 3 (.string ⟨#[]⟩) rfl; have y4 := hqq.cell 4 (.slice none 0 0) rfl; have y5 := hqq.cell 5 (.slice none 0 0) rfl; have y6 := hqq.cell 6 (.slice none 0 0) rfl; simp only [setAll] at y0 y1 y2 y3 y4 y5 y6; refine bodyPost_ret (v := .tuple #[.int .i64 0, .agg #[.bool false, .string ⟨#[]⟩, .string ⟨#[]⟩, .string ⟨#[]⟩, .slice none 0 0, .slice none 0 0, .slice none 0 0]]) (by simp [results, Tryz.results134, go_sem, y0, y1, y2, y3, y4, y5, y6]) rfl ?_
            show KindP g (.slice oa n oc) R w _ (setAll w4 (w.heap.size + 1) 0 zeroIC); exact ⟨HP4.out.2.setAllNew (by omega) _, HP4.out.1.setAllOther (by omega), zeroIC, by rw [H9.out.1], (by rw [H9.out.2]; exact ItmIn.zero _ _), rfl⟩
          . rw [if_neg hdp] at hRB
            have hdd : decide ((64 : Int) < (n : Int)) = false := by rw [decide_eq_false_iff_not]; omega
            have hpc := (H0.out.1.below HS2.out.1 hgw).cell 0 _ rfl; have hgl := (H0.out.1.below HS2.out.1 hgw).lt; rw [<- HN.out] at hRB
            by_cases hend : N = M + 1
            . rw [if_pos hend] at hRB
              have heq2 : ((M : Int) + 1 == (N : Int)) = true := by rw [beq_iff_eq]; omega
              have HRR := Lib.hid hRB; clear hRB hend hdp; obtain ⟨hbl, k0, k1, k2, hown, hz9⟩ := HS2.out; have hl0 := k0.lt; have hl1 := k1.lt; have hl2x := k2.lt; have HK := Lib.hid (And.intro k1 (And.intro hown (And.intro hbl (H0.out.1.below hbl hgw)))); have k0c0 := k0.cell 0 _ rfl; have k0f0 := k0.frozen 0; have k0c1 := k0.cell 1 _ rfl; have k0f1 := k0.frozen 1; have k0c2 := k0.cell 2 _ rfl; have k0f2 := k0.frozen 2; have k1c0 := k1.cell 0 _ rfl; have k1f0 := k1.frozen 0; have k1c1 := k1.cell 1 _ rfl; have k1f1 := k1.frozen 1; have k1c2 := k1.cell 2 _ rfl; have k1f2 := k1.frozen 2; have k1c3 := k1.cell 3 _ rfl; have k1f3 := k1.frozen 3; have k1c4 := k1.cell 4 _ rfl; have k1f4 := k1.frozen 4; have k1c5 := k1.cell 5 _ rfl; have k1f5 := k1.frozen 5; have k1c6 := k1.cell 6 _ rfl; have k1f6 := k1.frozen 6; have k2c0 := k2.cell 0 _ rfl; have k2f0 := k2.frozen 0; have k2c1 := k2.cell 1 _ rfl; have k2f1 := k2.frozen 1; have k2c2 := k2.cell 2 _ rfl; have k2f2 := k2.frozen 2; have k2c3 := k2.cell 3 _ rfl; have k2f3 := k2.frozen 3; have k2c4 := k2.cell 4 _ rfl; have k2f4 := k2.frozen 4; have k2c5 := k2.cell 5 _ rfl; have k2f5 := k2.frozen 5; have k2c6 := k2.cell 6 _ rfl; have k2f6 := k2.frozen 6; clear hbl k0 k1 k2 hown; go_wp2_with fail; go_region
              all_goals
                go_wp2_with fail; obtain ⟨k1, hown, hbl, hpb⟩ := HK.out; have hqq := (k1.put [.bool true, .string t.text, .string ⟨#[]⟩, .string ⟨#[]⟩, .slice none 0 0, .slice va pre.length vc, .slice none 0 0] 0).drew; have y0 := hqq.cell 0 (.bool true) rfl; have y1 := hqq.cell 1 (.string t.text) rfl; have y2 := hqq.cell 2 (.string ⟨#[]⟩) rfl; have y3 := hqq.cell 3 (.string ⟨#[]⟩) rfl; have y4 := hqq.cell 4 (.slice none 0 0) rfl; have y5 := hqq.cell 5 (.slice va pre.length vc) rfl; have y6 := hqq.cell 6 (.slice none 0 0) rfl; simp only [setAll] at y0 y1 y2 y3 y4 y5 y6; refine bodyPost_ret (v := .tuple #[.int .i64 3, .agg #[.bool true, .string t.text, .string ⟨#[]⟩, .string ⟨#[]⟩, .slice none 0 0, .slice va pre.length vc, .slice none 0 0]]) (by simp [results, Tryz.results134, go_sem, y0, y1, y2, y3, y4, y5, y6]) rfl ?_
                show KindP g (.slice oa n oc) R w _ (setAll w2 (w.heap.size + 1) 0 [.bool true, .string t.text, .string ⟨#[]⟩, .string ⟨#[]⟩, .slice none 0 0, .slice va pre.length vc, .slice none 0 0]).drew; rw [HRR.out]; refine ⟨((Save.of hbl).setAllNew (by omega) _).drew, (hpb.setAllOther (by omega)).drew, [.bool true, .string t.text, .string ⟨#[]⟩, .string ⟨#[]⟩, .slice none 0 0, .slice va pre.length vc, .slice none 0 0], rfl, ?_⟩
                refine ⟨ItmIn.leaf (ExpIn.leaf _ _ _ _) ?_, rfl⟩; exact row_put (q := w.heap.size + 1) (B := w.heap.size + 3) (by omega) (by omega) hown
            . rw [if_neg hend] at hRB
              have heq2 : ((M : Int) + 1 == (N : Int)) = false := by rw [beq_eq_false_iff_ne]; omega
              have hfl2 : M + 1 < (t :: row).length := by rw [<- HN.out]; omega
              obtain ⟨bb2, ob2, he2, hlt2, d0, d1, d2⟩ := (H0.out.2.1.below HS2.out.1 (Nat.le_refl _)).get hfl2; cases he2
              have hdr2 : row.drop M = (t :: row)[M + 1] :: row.drop (M + 1) := List.drop_eq_getElem_cons hfl2; rw [hdr2, isS_cons] at hRB; have hSg := sign_tok (t :: row)[M + 1] sRc w2; generalize (t :: row)[M + 1] = tk2 at *; obtain ⟨kk2, kt2, kp2⟩ := tk2; simp only [tokV] at hSg; simp only at d0 d1 d2; obtain ⟨hbl, k0, k1, k2, hown, hz9⟩ := HS2.out; have hl0 := k0.lt; have k0c0 := k0.cell 0 _ rfl; have k0f0 := k0.frozen 0; have k0c1 := k0.cell 1 _ rfl; have k0f1 := k0.frozen 1; have k0c2 := k0.cell 2 _ rfl; have k0f2 := k0.frozen 2; have HRB := Lib.hid hRB; have ha3 : off + (M + 1) * 3 = off + (M + 1) * 3 := rfl; clear hbl k0 k1 k2 hown hRB hdr2 hdp; go_wp2_with fail; refine hSg.mono ?_; clear hSg d0 d1 d2 k0c0 k0c1 k0c2 k0f0 k0f1 k0f2 hpc hgl; rintro _ w5 ⟨rfl, hb5⟩; have HS5 := Lib.hid (HS2.out.step hb5); clear hb5 HS2; have hRB := HRB.out; clear HRB
              by_cases hsg : signT ⟨kk2, kt2, kp2⟩ sRc = false
              . rw [if_pos hsg] at hRB
                rw [hsg]; have HRR := Lib.hid hRB; clear hRB hsg; obtain ⟨hbl, k0, k1, k2, hown, hz9⟩ := HS5.out; have hL := lacks_any g (.slice oa n oc) (t :: row) (.slice (some ⟨b, off, none⟩) N rc) stop last ((M + 1)) _ (H0.out.1.below hbl hgw) (H0.out.2.1.below hbl (Nat.le_refl _)) (by simp; omega)
                rw [<- HRR.out, show ((((M + 1) : Nat)) : Int) = (M : Int) + 1 by omega] at hL
                have H9 : Hid (lnK R = 0 /\ lnX R = zeroI) := Lib.hid (by rw [HRR.out]; exact lack_zero _ _ _ _)
                simp only [lineV] at hL; have hl0 := k0.lt; have k0c0 := k0.cell 0 _ rfl; have k0f0 := k0.frozen 0; have k0c1 := k0.cell 1 _ rfl; have k0f1 := k0.frozen 1; have k0c2 := k0.cell 2 _ rfl; have k0f2 := k0.frozen 2; clear hbl k0 k1 k2 hown; go_wp2_with fail; refine hL.mono ?_; clear hL k0c0 k0c1 k0c2 k0f0 k0f1 k0f2; rintro _ w4 ⟨rfl, hs4, p4⟩; obtain ⟨hbl, k0, k1, k2, hown, -⟩ := HS5.out; have q4 := hs4.cells k1 (by omega)
                have hl4 := q4.lt; have HP4 := Lib.hid (And.intro p4 ((Save.of hbl).trans hs4)); have HQ4 := Lib.hid q4; have q4c0 := q4.cell 0 _ rfl; have q4f0 := q4.frozen 0; have q4c1 := q4.cell 1 _ rfl; have q4f1 := q4.frozen 1; have q4c2 := q4.cell 2 _ rfl; have q4f2 := q4.frozen 2; have q4c3 := q4.cell 3 _ rfl; have q4f3 := q4.frozen 3; have q4c4 := q4.cell 4 _ rfl; have q4f4 := q4.frozen 4; have q4c5 := q4.cell 5 _ rfl; have q4f5 := q4.frozen 5; have q4c6 := q4.cell 6 _ rfl; have q4f6 := q4.frozen 6; clear q4 p4 hs4 hbl k0 k1 k2 hown; go_wp2_with fail; have hqq := HQ4.out.put zeroIC 0; have y0 := hqq.cell 0 (.bool false) rfl; have y1 := hqq.cell 1 (.string ⟨#[]⟩) rfl; have y2 := hqq.cell 2 (.string ⟨#[]⟩) rfl; have y3 := hqq.cell 3 (.string ⟨#[]⟩) rfl; have y4 := hqq.cell 4 (.slice none 0 0) rfl; have y5 := hqq.cell 5 (.slice none 0 0) rfl; have y6 := hqq.cell 6 (.slice none 0 0) rfl; simp only [setAll] at y0 y1 y2 y3 y4 y5 y6; refine bodyPost_ret (v := .tuple #[.int .i64 0, .agg #[.bool false, .string ⟨#[]⟩, .string ⟨#[]⟩, .string ⟨#[]⟩, .slice none 0 0, .slice none 0 0, .slice none 0 0]]) (by simp [results, Tryz.results134, go_sem, y0, y1, y2, y3, y4, y5, y6]) rfl ?_
                show KindP g (.slice oa n oc) R w _ (setAll w4 (w.heap.size + 1) 0 zeroIC); exact ⟨HP4.out.2.setAllNew (by omega) _, HP4.out.1.setAllOther (by omega), zeroIC, by rw [H9.out.1], (by rw [H9.out.2]; exact ItmIn.zero _ _), rfl⟩
              . rw [if_neg hsg] at hRB
                have hsg2 : signT ⟨kk2, kt2, kp2⟩ sRc = true := by simpa using hsg
                rw [hsg2]; clear hsg hsg2
                by_cases hmore : M + 2 < N
                . rw [if_pos hmore] at hRB
                  have HRR := Lib.hid hRB; have hdm : decide ((M : Int) + 1 + 1 < (N : Int)) = true := by rw [decide_eq_true_iff]; omega
                  clear hRB; obtain ⟨hbl, k0, k1, k2, hown, hz9⟩ := HS5.out; have hL := lacks_any g (.slice oa n oc) (t :: row) (.slice (some ⟨b, off, none⟩) N rc) stop last ((M + 2)) _ (H0.out.1.below hbl hgw) (H0.out.2.1.below hbl (Nat.le_refl _)) (by simp; omega)
                  rw [<- HRR.out, show ((((M + 2) : Nat)) : Int) = (M : Int) + 1 + 1 by omega] at hL
                  have H9 : Hid (lnK R = 0 /\ lnX R = zeroI) := Lib.hid (by rw [HRR.out]; exact lack_zero _ _ _ _)
                  simp only [lineV] at hL; have hl0 := k0.lt; have k0c0 := k0.cell 0 _ rfl; have k0f0 := k0.frozen 0; have k0c1 := k0.cell 1 _ rfl; have k0f1 := k0.frozen 1; have k0c2 := k0.cell 2 _ rfl; have k0f2 := k0.frozen 2; clear hbl k0 k1 k2 hown; go_wp2_with fail; refine hL.mono ?_; clear hL k0c0 k0c1 k0c2 k0f0 k0f1 k0f2; rintro _ w4 ⟨rfl, hs4, p4⟩; obtain ⟨hbl, k0, k1, k2, hown, -⟩ := HS5.out; have q4 := hs4.cells k1 (by omega)
                  have hl4 := q4.lt; have HP4 := Lib.hid (And.intro p4 ((Save.of hbl).trans hs4)); have HQ4 := Lib.hid q4; have q4c0 := q4.cell 0 _ rfl; have q4f0 := q4.frozen 0; have q4c1 := q4.cell 1 _ rfl; have q4f1 := q4.frozen 1; have q4c2 := q4.cell 2 _ rfl; have q4f2 := q4.frozen 2; have q4c3 := q4.cell 3 _ rfl; have q4f3 := q4.frozen 3; have q4c4 := q4.cell 4 _ rfl; have q4f4 := q4.frozen 4; have q4c5 := q4.cell 5 _ rfl; have q4f5 := q4.frozen 5; have q4c6 := q4.cell 6 _ rfl; have q4f6 := q4.frozen 6; clear q4 p4 hs4 hbl k0 k1 k2 hown; go_wp2_with fail; have hqq := HQ4.out.put zeroIC 0; have y0 := hqq.cell 0 (.bool false) rfl; have y1 := hqq.cell 1 (.string ⟨#[]⟩) rfl; have y2 := hqq.cell 2 (.string ⟨#[]⟩) rfl; have y3 := hqq.cell 3 (.string ⟨#[]⟩) rfl; have y4 := hqq.cell 4 (.slice none 0 0) rfl; have y5 := hqq.cell 5 (.slice none 0 0) rfl; have y6 := hqq.cell 6 (.slice none 0 0) rfl; simp only [setAll] at y0 y1 y2 y3 y4 y5 y6; refine bodyPost_ret (v := .tuple #[.int .i64 0, .agg #[.bool false, .string ⟨#[]⟩, .string ⟨#[]⟩, .string ⟨#[]⟩, .slice none 0 0, .slice none 0 0, .slice none 0 0]]) (by simp [results, Tryz.results134, go_sem, y0, y1, y2, y3, y4, y5, y6]) rfl ?_
                  show KindP g (.slice oa n oc) R w _ (setAll w4 (w.heap.size + 1) 0 zeroIC); exact ⟨HP4.out.2.setAllNew (by omega) _, HP4.out.1.setAllOther (by omega), zeroIC, by rw [H9.out.1], (by rw [H9.out.2]; exact ItmIn.zero _ _), rfl⟩
                . rw [if_neg hmore] at hRB
                  have HRR := Lib.hid hRB; have hdm : decide ((M : Int) + 1 + 1 < (N : Int)) = false := by rw [decide_eq_false_iff_not]; omega
                  clear hRB; obtain ⟨hbl, k0, k1, k2, hown, hz9⟩ := HS5.out; have hl0 := k0.lt; have hl1 := k1.lt; have hl2x := k2.lt; have HK := Lib.hid (And.intro k1 (And.intro hown (And.intro hbl (H0.out.1.below hbl hgw)))); have k0c0 := k0.cell 0 _ rfl; have k0f0 := k0.frozen 0; have k0c1 := k0.cell 1 _ rfl; have k0f1 := k0.frozen 1; have k0c2 := k0.cell 2 _ rfl; have k0f2 := k0.frozen 2; have k1c0 := k1.cell 0 _ rfl; have k1f0 := k1.frozen 0; have k1c1 := k1.cell 1 _ rfl; have k1f1 := k1.frozen 1; have k1c2 := k1.cell 2 _ rfl; have k1f2 := k1.frozen 2; have k1c3 := k1.cell 3 _ rfl; have k1f3 := k1.frozen 3; have k1c4 := k1.cell 4 _ rfl; have k1f4 := k1.frozen 4; have k1c5 := k1.cell 5 _ rfl; have k1f5 := k1.frozen 5; have k1c6 := k1.cell 6 _ rfl; have k1f6 := k1.frozen 6; have k2c0 := k2.cell 0 _ rfl; have k2f0 := k2.frozen 0; have k2c1 := k2.cell 1 _ rfl; have k2f1 := k2.frozen 1; have k2c2 := k2.cell 2 _ rfl; have k2f2 := k2.frozen 2; have k2c3 := k2.cell 3 _ rfl; have k2f3 := k2.frozen 3; have k2c4 := k2.cell 4 _ rfl; have k2f4 := k2.frozen 4; have k2c5 := k2.cell 5 _ rfl; have k2f5 := k2.frozen 5; have k2c6 := k2.cell 6 _ rfl; have k2f6 := k2.frozen 6; clear hbl k0 k1 k2 hown; go_wp2_with fail; go_region
                  all_goals
                    go_wp2_with fail; obtain ⟨k1, hown, hbl, hpb⟩ := HK.out; have hqq := (k1.put [.bool true, .string t.text, .string ⟨#[]⟩, .string ⟨#[]⟩, .slice none 0 0, .slice va pre.length vc, .slice none 0 0] 0).drew; have y0 := hqq.cell 0 (.bool true) rfl; have y1 := hqq.cell 1 (.string t.text) rfl; have y2 := hqq.cell 2 (.string ⟨#[]⟩) rfl; have y3 := hqq.cell 3 (.string ⟨#[]⟩) rfl; have y4 := hqq.cell 4 (.slice none 0 0) rfl; have y5 := hqq.cell 5 (.slice va pre.length vc) rfl; have y6 := hqq.cell 6 (.slice none 0 0) rfl; simp only [setAll] at y0 y1 y2 y3 y4 y5 y6; refine bodyPost_ret (v := .tuple #[.int .i64 4, .agg #[.bool true, .string t.text, .string ⟨#[]⟩, .string ⟨#[]⟩, .slice none 0 0, .slice va pre.length vc, .slice none 0 0]]) (by simp [results, Tryz.results134, go_sem, y0, y1, y2, y3, y4, y5, y6]) rfl ?_
                    show KindP g (.slice oa n oc) R w _ (setAll w5 (w.heap.size + 1) 0 [.bool true, .string t.text, .string ⟨#[]⟩, .string ⟨#[]⟩, .slice none 0 0, .slice va pre.length vc, .slice none 0 0]).drew; rw [HRR.out]; refine ⟨((Save.of hbl).setAllNew (by omega) _).drew, (hpb.setAllOther (by omega)).drew, [.bool true, .string t.text, .string ⟨#[]⟩, .string ⟨#[]⟩, .slice none 0 0, .slice va pre.length vc, .slice none 0 0], rfl, ?_⟩
                    refine ⟨ItmIn.leaf (ExpIn.leaf _ _ _ _) ?_, rfl⟩; exact row_put (q := w.heap.size + 1) (B := w.heap.size + 3) (by omega) (by omega) hown
      . have hdec : decide ((M : Int) < (N : Int)) = false := by rw [decide_eq_false_iff_not]; omega
        have heq : ((M : Int) == (N : Int)) = true := by rw [beq_iff_eq]; omega
        have hRB := HRB.out; rw [List.drop_eq_nil_of_le (by simp; omega), if_pos (by rfl)] at hRB
        have HRR := Lib.hid hRB; clear hRB HRB hlab hr; obtain ⟨hbl, k0, k1, k2, hown, hz9⟩ := HS.out; have hL := lacks_any g (.slice oa n oc) (t :: row) (.slice (some ⟨b, off, none⟩) N rc) stop last (M) _ (H0.out.1.below hbl hgw) (H0.out.2.1.below hbl (Nat.le_refl _)) (by simp; omega)
        rw [<- HRR.out, show (((M : Nat)) : Int) = (M : Int) by omega] at hL
        have H9 : Hid (lnK R = 0 /\ lnX R = zeroI) := Lib.hid (by rw [HRR.out]; exact lack_zero _ _ _ _)
        simp only [lineV] at hL; have hl0 := k0.lt; have k0c0 := k0.cell 0 _ rfl; have k0f0 := k0.frozen 0; have k0c1 := k0.cell 1 _ rfl; have k0f1 := k0.frozen 1; have k0c2 := k0.cell 2 _ rfl; have k0f2 := k0.frozen 2; clear hbl k0 k1 k2 hown; go_wp2_with fail; refine hL.mono ?_; clear hL k0c0 k0c1 k0c2 k0f0 k0f1 k0f2; rintro _ w4 ⟨rfl, hs4, p4⟩; obtain ⟨hbl, k0, k1, k2, hown, -⟩ := HS.out; have q4 := hs4.cells k1 (by omega)
        have hl4 := q4.lt; have HP4 := Lib.hid (And.intro p4 ((Save.of hbl).trans hs4)); have HQ4 := Lib.hid q4; have q4c0 := q4.cell 0 _ rfl; have q4f0 := q4.frozen 0; have q4c1 := q4.cell 1 _ rfl; have q4f1 := q4.frozen 1; have q4c2 := q4.cell 2 _ rfl; have q4f2 := q4.frozen 2; have q4c3 := q4.cell 3 _ rfl; have q4f3 := q4.frozen 3; have q4c4 := q4.cell 4 _ rfl; have q4f4 := q4.frozen 4; have q4c5 := q4.cell 5 _ rfl; have q4f5 := q4.frozen 5; have q4c6 := q4.cell 6 _ rfl; have q4f6 := q4.frozen 6; clear q4 p4 hs4 hbl k0 k1 k2 hown; go_wp2_with fail; have hqq := HQ4.out.put zeroIC 0; have y0 := hqq.cell 0 (.bool false) rfl; have y1 := hqq.cell 1 (.string ⟨#[]⟩) rfl; have y2 := hqq.cell 2 (.string ⟨#[]⟩) rfl; have y3 := hqq.cell 3 (.string ⟨#[]⟩) rfl; have y4 := hqq.cell 4 (.slice none 0 0) rfl; have y5 := hqq.cell 5 (.slice none 0 0) rfl; have y6 := hqq.cell 6 (.slice none 0 0) rfl; simp only [setAll] at y0 y1 y2 y3 y4 y5 y6; refine bodyPost_ret (v := .tuple #[.int .i64 0, .agg #[.bool false, .string ⟨#[]⟩, .string ⟨#[]⟩, .string ⟨#[]⟩, .slice none 0 0, .slice none 0 0, .slice none 0 0]]) (by simp [results, Tryz.results134, go_sem, y0, y1, y2, y3, y4, y5, y6]) rfl ?_
        show KindP g (.slice oa n oc) R w _ (setAll w4 (w.heap.size + 1) 0 zeroIC); exact ⟨HP4.out.2.setAllNew (by omega) _, HP4.out.1.setAllOther (by omega), zeroIC, by rw [H9.out.1], (by rw [H9.out.2]; exact ItmIn.zero _ _), rfl⟩
def KdS (w W : World) (line : Array Value) : Prop := Below w.heap.size w W /\ Cells W w.heap.size line 86 /\ Cells W (w.heap.size + 1) zeroIC.toArray 54 /\ w.heap.size + 2 <= W.heap.size
theorem KdS.step {w W W' : World} {line : Array Value} (h : KdS w W line) (hb : Below W.heap.size W W') : KdS w W' line :=
 ⟨h.1.trans (hb.mono h.1.size), h.2.1.below hb h.2.1.lt, h.2.2.1.below hb h.2.2.1.lt, Nat.le_trans h.2.2.2 hb.size⟩
theorem ItmIn.shape7 {P : Nat -> Prop} {w : World} {t : Itm} {cs : List Value} (h : ItmIn P w t cs) : ∃ n vo vt va vn vc la ln lc ia k cap, cs = [.bool t.block, .string n, .string vo, .string vt, .slice va vn vc, .slice la ln lc, .slice ia k cap] := by
 cases t
 unfold ItmIn at h; obtain ⟨_, _, _, _, _, _, rfl, hv, hl, -⟩ := h.open; obtain ⟨va, vn, vc, rfl⟩ := exp_shape hv; obtain ⟨la, lc, rfl, -⟩ := hl.1.len; exact ⟨_, _, _, _, _, _, _, _, _, _, _, _, rfl⟩
theorem kind_nil (g : Nat) (oa : Option Addr) (n oc : Nat)  (lv : Value) (stop : Int) (last : Bool) (w : World) (h : PBox w g (.slice oa n oc) 0 0) (hr : ToksAt w lv []) (ho : ∀ b, lv.ownBlock = some b -> b < w.heap.size) (hT : LexT w) (hn : ([] : List Tok).length <= 900000) (hsh : ∀ t ∈ ([] : List Tok), t.text.size <= 1048576) (hq : ∀ t ∈ ([] : List Tok), t.kind = 3 -> quoX t.text ≠ none) :
  Calls Tryz.prog 89 #[.pointer (some ⟨g, 0, none⟩), lineV lv stop last] w (KindP g (.slice oa n oc) (lineK n [] stop last) w) := by
 obtain ⟨ra, rc, rfl, hl1, hl2, -⟩ := hr.len; obtain ⟨N, hN⟩ : ∃ N, N = ([] : List Tok).length := ⟨_, rfl⟩; have hNle : N <= ([] : List Tok).length /\ ([] : List Tok).length <= N := by omega
 rw [<- hN] at hr hl1 ho ⊢; unfold maxLen at hl2; have HN := Lib.hid hN; clear hN; obtain ⟨R, hR⟩ : ∃ R, R = lineK n [] stop last := ⟨_, rfl⟩; have HR := Lib.hid hR; rw [<- hR]; clear hR; have hgw := h.lt; have hbA : Below w.heap.size w ((w.alloc (.cells (lineC (.slice ra N rc) stop last) 86)).alloc (.cells zeroIC.toArray 54)) := ((Below.refl _ w).alloc (Nat.le_refl _) _).alloc (by simp) _
 have kA := (Cells.new w (lineC (.slice ra N rc) stop last) 86).alloc (.cells zeroIC.toArray 54); have kB := Cells.new (w.alloc (.cells (lineC (.slice ra N rc) stop last) 86)) zeroIC.toArray 54; simp only [World.size_alloc] at kB; have hzA : ((w.alloc (.cells (lineC (.slice ra N rc) stop last) 86)).alloc (.cells zeroIC.toArray 54)).heap.size = w.heap.size + 2 := by simp
 have HS := Lib.hid (show KdS w ((w.alloc (.cells (lineC (.slice ra N rc) stop last) 86)).alloc (.cells zeroIC.toArray 54)) (lineC (.slice ra N rc) stop last) from ⟨hbA, kA, kB, by rw [hzA]; exact Nat.le_refl _⟩)
 have H0 := Lib.hid (And.intro h (And.intro hr (And.intro ho hT))); clear hbA kA kB hzA h hr ho hT; have hNz : ((N : Int) == 0) = true := by rw [beq_iff_eq]; simp at hNle; omega
 have HRR : Hid (R = .empty) := HR; have H9 : Hid (lnK R = 1 /\ lnX R = zeroI) := Lib.hid (by rw [HRR.out]; exact ⟨rfl, rfl⟩)
 go_enter Tryz.func89, Tryz.ntmps89; go_wp2_with fail; obtain ⟨hbl, k0, k1, hz9⟩ := HS.out; have HQ4 := Lib.hid k1; have p4 : PBox ((w.alloc (.cells (lineC (.slice ra N rc) stop last) 86)).alloc (.cells zeroIC.toArray 54)) g (.slice oa n oc) (lnE R).1 (lnE R).2 := by rw [HRR.out]; exact H0.out.1.below hbl hgw
 have HP4 := Lib.hid (And.intro p4 (Save.of (g := g) hbl)); have y0 := k1.cell 0 (.bool false) rfl; have y1 := k1.cell 1 (.string ⟨#[]⟩) rfl; have y2 := k1.cell 2 (.string ⟨#[]⟩) rfl; have y3 := k1.cell 3 (.string ⟨#[]⟩) rfl; have y4 := k1.cell 4 (.slice none 0 0) rfl; have y5 := k1.cell 5 (.slice none 0 0) rfl; have y6 := k1.cell 6 (.slice none 0 0) rfl; refine bodyPost_ret (v := .tuple #[.int .i64 1, .agg #[.bool false, .string ⟨#[]⟩, .string ⟨#[]⟩, .string ⟨#[]⟩, .slice none 0 0, .slice none 0 0, .slice none 0 0]]) (by simp [results, Tryz.results89, go_sem, y0, y1, y2, y3, y4, y5, y6]) rfl ?_
 exact ⟨HP4.out.2, HP4.out.1, zeroIC, by rw [H9.out.1], (by rw [H9.out.2]; exact ItmIn.zero _ _), rfl⟩
theorem one7 (b : Bool) (n o s : ByteArray) (va : Option Addr) (vn vc : Nat) (la : Option Addr) (ln lc : Nat) (ia : Option Addr) (k c : Nat) : ∀ v ∈ (#[.bool b, .string n, .string o, .string s, .slice va vn vc, .slice la ln lc, .slice ia k c] : Array Value).toList, v.oneCell' = true := by
 intro v hv; simp at hv
 rcases hv with rfl | rfl | rfl | rfl | rfl | rfl | rfl <;> rfl
theorem itm_row {w3 : World} {B n q : Nat} {x : Itm} {cs : List Value} {vals : Array Value} (hq : q < B) (hn : n <= B) (hx : ItmIn (fun b => B <= b) w3 x cs) : ItmIn (fun b => n <= b) (w3.setRow q vals) x cs :=
 ItmIn.move (P := fun b => B <= b) (Q := fun b => n <= b) (w := w3) (w' := (w3.setRow q vals)) (Nat.le_of_eq (setRow_size w3 q vals).symm) (fun b (hb : B <= b) _ => setRow_other w3 q b vals (by omega)) (fun b (hb : B <= b) _ => Nat.le_trans hn hb) x cs hx
theorem Save.setRowNew {w w' : World} {g q : Nat} (h : Save g w w') (hq : w.heap.size <= q) (vals : Array Value) : Save g w (w'.setRow q vals) :=
 ⟨below_setRow h.1 (Nat.zero_le _) _, fun k hk hn => (setRow_other w' q k vals (by omega)).trans (h.2 k hk hn)⟩
theorem kind_tab (g : Nat) (oa : Option Addr) (n oc : Nat) (t : Tok) (r : List Tok) (lv : Value) (stop : Int) (last : Bool) (w : World) (h : PBox w g (.slice oa n oc) 0 0) (hr : ToksAt w lv (t :: r)) (ho : ∀ b, lv.ownBlock = some b -> b < w.heap.size) (hT : LexT w) (hn : (t :: r).length <= 900000) (hsh : ∀ u ∈ (t :: r), u.text.size <= 1048576) (hq : ∀ u ∈ (t :: r), u.kind = 3 -> quoX u.text ≠ none) (hs0 : signT t sRc = false) (hk1 : t.kind = 1) :
  Calls Tryz.prog 89 #[.pointer (some ⟨g, 0, none⟩), lineV lv stop last] w (KindP g (.slice oa n oc) (lineK n (t :: r) stop last) w) := by
 obtain ⟨ra, rc, rfl, hl1, hl2, -⟩ := hr.len; obtain ⟨N, hN⟩ : ∃ N, N = (t :: r).length := ⟨_, rfl⟩; have hNle : N <= (t :: r).length /\ (t :: r).length <= N := by omega
 rw [<- hN] at hr hl1 ho ⊢; unfold maxLen at hl2; have HN := Lib.hid hN; clear hN; obtain ⟨R, hR⟩ : ∃ R, R = lineK n (t :: r) stop last := ⟨_, rfl⟩; have HR := Lib.hid hR; rw [<- hR]; clear hR; have hgw := h.lt; have hbA : Below w.heap.size w ((w.alloc (.cells (lineC (.slice ra N rc) stop last) 86)).alloc (.cells zeroIC.toArray 54)) := ((Below.refl _ w).alloc (Nat.le_refl _) _).alloc (by simp) _
 have kA := (Cells.new w (lineC (.slice ra N rc) stop last) 86).alloc (.cells zeroIC.toArray 54); have kB := Cells.new (w.alloc (.cells (lineC (.slice ra N rc) stop last) 86)) zeroIC.toArray 54; simp only [World.size_alloc] at kB; have hzA : ((w.alloc (.cells (lineC (.slice ra N rc) stop last) 86)).alloc (.cells zeroIC.toArray 54)).heap.size = w.heap.size + 2 := by simp
 have HS := Lib.hid (show KdS w ((w.alloc (.cells (lineC (.slice ra N rc) stop last) 86)).alloc (.cells zeroIC.toArray 54)) (lineC (.slice ra N rc) stop last) from ⟨hbA, kA, kB, by rw [hzA]; exact Nat.le_refl _⟩)
 have H0 := Lib.hid (And.intro h (And.intro hr (And.intro ho hT))); clear hbA kA kB hzA h hr ho hT; simp only [List.length_cons] at hNle hn; have hN1 : 1 <= N := by omega
 have hNz : ((N : Int) == 0) = false := by rw [beq_eq_false_iff_ne]; omega
 obtain ⟨bb, ob, he, hlt, c0, c1, c2⟩ := (H0.out.2.1.below HS.out.1 (Nat.le_refl _)).get (j := 0) (by simp)
 cases he
 simp only [Nat.zero_mul, Nat.add_zero, List.getElem_cons_zero] at c0 c1 c2; have hSg := sign_tok t sRc ((w.alloc (.cells (lineC (.slice (some ⟨bb, ob, none⟩) N rc) stop last) 86)).alloc (.cells zeroIC.toArray 54)); have hRB := HR.out; simp only [lineK] at hRB; rw [isS_cons] at hRB; have HRB := Lib.hid hRB; clear hRB HR; have HTT := Lib.hid (And.intro hsh hq); have htl := hsh t (by simp)
 clear hsh hq; simp only [tokV] at hSg; have HA0 := Lib.hid (And.intro hs0 hk1); clear hs0 hk1; go_enter Tryz.func89, Tryz.ntmps89; go_wp2_with fail; refine hSg.mono ?_; generalize (w.alloc (.cells (lineC (.slice (some ⟨bb, ob, none⟩) N rc) stop last) 86)).alloc (.cells zeroIC.toArray 54) = w1 at *; clear hSg c0 c1 c2 hlt; rintro _ w2 ⟨rfl, hb2⟩; have HS2 := Lib.hid (HS.out.step hb2); clear hb2 HS; have hRB := HRB.out; clear HRB; have hs0 := HA0.out.1; have hk1 := HA0.out.2; rw [if_neg (by simp [hs0])] at hRB
 have hsg2 : signT t sRc = false := hs0; rw [hsg2]; clear hsg2 hs0; obtain ⟨bb3, ob3, he3, hlt3, c0, c1, c2⟩ := (H0.out.2.1.below HS2.out.1 (Nat.le_refl _)).get (j := 0) (by simp)
 cases he3
 simp only [Nat.zero_mul, Nat.add_zero, List.getElem_cons_zero] at c0 c1 c2; rw [if_neg (by simpa using hk1)] at hRB
 have hkk : (t.kind != 1) = false := by simp [hk1]
 cases r with
 | nil =>
  have hd : decide ((1 : Int) < (N : Int)) = false := by rw [decide_eq_false_iff_not]; simp at hNle; omega
  rw [if_neg (by simp [isS])] at hRB
  have hC := block_any g oa n oc t [] (.slice (some ⟨bb, ob, none⟩) N rc) stop last w2 (H0.out.1.below HS2.out.1 hgw) (H0.out.2.1.below HS2.out.1 (Nat.le_refl _)) (H0.out.2.2.2.below HS2.out.1).utf (H0.out.2.2.2.below HS2.out.1).utf.pos (by simp) (fun t ht => by cases ht) (fun t ht => by cases ht)
  rw [<- hRB] at hC; obtain ⟨hbl, k0, k1, hz9⟩ := HS2.out; have hl0 := k0.lt; have k0c0 := k0.cell 0 _ rfl; have k0f0 := k0.frozen 0; have k0c1 := k0.cell 1 _ rfl; have k0f1 := k0.frozen 1; have k0c2 := k0.cell 2 _ rfl; have k0f2 := k0.frozen 2; clear hbl k0 k1 hRB hk1; simp only [lineV] at hC; go_wp2_with fail; clear k0c0 k0c1 k0c2 k0f0 k0f1 k0f2 c0 c1 c2; refine hC.mono ?_; clear hC; rintro _ w4 ⟨hs4, p4, cs, rfl, hin, hi6⟩; obtain ⟨cn, cvo, cvt, va, vn, vc, la, ln, lc, cia, ck, ccap, rfl⟩ := ItmIn.shape7 hin; obtain ⟨hbl, k0, k1, hz9⟩ := HS2.out; have q4 := hs4.cells k1 (by omega)
  have hl4 := q4.lt; have HP4 := Lib.hid (And.intro p4 (And.intro ((Save.of hbl).trans hs4) (And.intro hin hi6))); have HQ4 := Lib.hid q4; clear q4 p4 hs4 hbl k0 k1 hin hi6; generalize (lnX R).block = cb at *; go_wp2_with (with_reducible first | refine stop_store ?_)
  refine Stop.out ?_; refine wpList_store_all rfl 54 _ _ rfl rfl _ rfl #[.bool cb, .string cn, .string cvo, .string cvt, .slice va vn vc, .slice la ln lc, .slice cia ck ccap] rfl _ _ HQ4.out rfl (by kernel_rfl) (one7 _ _ _ _ _ _ _ _ _ _ _ _ _) ?_
  have hqq : Cells (w4.setRow (w.heap.size + 1) #[.bool cb, .string cn, .string cvo, .string cvt, .slice va vn vc, .slice la ln lc, .slice cia ck ccap]) (w.heap.size + 1) #[.bool cb, .string cn, .string cvo, .string cvt, .slice va vn vc, .slice la ln lc, .slice cia ck ccap] 54 := setRow_heap _ _ _ _ _ _ HQ4.out; have y0 := hqq.cell 0 (.bool cb) rfl; have y1 := hqq.cell 1 (.string cn) rfl; have y2 := hqq.cell 2 (.string cvo) rfl; have y3 := hqq.cell 3 (.string cvt) rfl; have y4 := hqq.cell 4 (.slice va vn vc) rfl; have y5 := hqq.cell 5 (.slice la ln lc) rfl; have y6 := hqq.cell 6 (.slice cia ck ccap) rfl; go_wp2; refine bodyPost_ret (v := .tuple #[.int .i64 (lnK R), .agg #[.bool cb, .string cn, .string cvo, .string cvt, .slice va vn vc, .slice la ln lc, .slice cia ck ccap]]) (by simp [results, Tryz.results89, go_sem, y0, y1, y2, y3, y4, y5, y6]) rfl ?_
  exact ⟨HP4.out.2.1.setRowNew (by omega) _, (setRow_other _ _ _ _ (by omega)).trans HP4.out.1, _, rfl, itm_row (B := w2.heap.size) (by omega) (by omega) HP4.out.2.2.1, HP4.out.2.2.2⟩
 | cons t2 r2 =>
  have hN2 : 2 <= N := by simp at hNle; omega
  have hd : decide ((1 : Int) < (N : Int)) = true := by rw [decide_eq_true_iff]; simp at hNle; omega
  obtain ⟨bb4, ob4, he4, hlt4, d0, d1, d2⟩ := (H0.out.2.1.below HS2.out.1 (Nat.le_refl _)).get (j := 1) (by simp)
  cases he4
  simp only [Nat.one_mul, List.getElem_cons_succ, List.getElem_cons_zero] at d0 d1 d2; have hSg := sign_tok t2 sEq w2; rw [isS_cons] at hRB; have HRB := Lib.hid hRB; obtain ⟨hbl, k0, k1, hz9⟩ := HS2.out; have hl0 := k0.lt; have k0c0 := k0.cell 0 _ rfl; have k0f0 := k0.frozen 0; have k0c1 := k0.cell 1 _ rfl; have k0f1 := k0.frozen 1; have k0c2 := k0.cell 2 _ rfl; have k0f2 := k0.frozen 2; clear hbl k0 k1 hRB hk1; simp only [tokV] at hSg; go_wp2_with fail; refine hSg.mono ?_; clear hSg k0c0 k0c1 k0c2 k0f0 k0f1 k0f2 c0 c1 c2 d0 d1 d2; rintro _ w5 ⟨rfl, hb5⟩; have HS5 := Lib.hid (HS2.out.step hb5); clear hb5 HS2; have hRB := HRB.out; clear HRB; have HS2 := HS5
  by_cases hsq : signT t2 sEq = true
  ·rw [if_pos hsq] at hRB
   rw [hsq]; have hC := attribute_any g (.slice oa n oc) t t2 r2 (.slice (some ⟨bb, ob, none⟩) N rc) stop last w5 (H0.out.1.below HS2.out.1 hgw) (H0.out.2.1.below HS2.out.1 (Nat.le_refl _)) (fun b hb => Nat.lt_of_lt_of_le (H0.out.2.2.1 b hb) HS2.out.1.size) (H0.out.2.2.2.below HS2.out.1) (by simp at hn; omega) (fun t ht => HTT.out.1 t (by simp [ht]))
   rw [<- hRB] at hC; obtain ⟨hbl, k0, k1, hz9⟩ := HS2.out; have hl0 := k0.lt; have k0c0 := k0.cell 0 _ rfl; have k0f0 := k0.frozen 0; have k0c1 := k0.cell 1 _ rfl; have k0f1 := k0.frozen 1; have k0c2 := k0.cell 2 _ rfl; have k0f2 := k0.frozen 2; clear hbl k0 k1 hRB hsq; simp only [lineV] at hC; go_wp2_with fail; clear k0c0 k0c1 k0c2 k0f0 k0f1 k0f2; refine hC.mono ?_; clear hC; rintro _ w4 ⟨hs4, p4, cs, rfl, hin, hi6⟩; obtain ⟨cn, cvo, cvt, va, vn, vc, la, ln, lc, cia, ck, ccap, rfl⟩ := ItmIn.shape7 hin; obtain ⟨hbl, k0, k1, hz9⟩ := HS2.out; have q4 := hs4.cells k1 (by omega)
   have hl4 := q4.lt; have HP4 := Lib.hid (And.intro p4 (And.intro ((Save.of hbl).trans hs4) (And.intro hin hi6))); have HQ4 := Lib.hid q4; clear q4 p4 hs4 hbl k0 k1 hin hi6; generalize (lnX R).block = cb at *; go_wp2_with (with_reducible first | refine stop_store ?_)
   refine Stop.out ?_; refine wpList_store_all rfl 54 _ _ rfl rfl _ rfl #[.bool cb, .string cn, .string cvo, .string cvt, .slice va vn vc, .slice la ln lc, .slice cia ck ccap] rfl _ _ HQ4.out rfl (by kernel_rfl) (one7 _ _ _ _ _ _ _ _ _ _ _ _ _) ?_
   have hqq : Cells (w4.setRow (w.heap.size + 1) #[.bool cb, .string cn, .string cvo, .string cvt, .slice va vn vc, .slice la ln lc, .slice cia ck ccap]) (w.heap.size + 1) #[.bool cb, .string cn, .string cvo, .string cvt, .slice va vn vc, .slice la ln lc, .slice cia ck ccap] 54 := setRow_heap _ _ _ _ _ _ HQ4.out; have y0 := hqq.cell 0 (.bool cb) rfl; have y1 := hqq.cell 1 (.string cn) rfl; have y2 := hqq.cell 2 (.string cvo) rfl; have y3 := hqq.cell 3 (.string cvt) rfl; have y4 := hqq.cell 4 (.slice va vn vc) rfl; have y5 := hqq.cell 5 (.slice la ln lc) rfl; have y6 := hqq.cell 6 (.slice cia ck ccap) rfl; go_wp2; refine bodyPost_ret (v := .tuple #[.int .i64 (lnK R), .agg #[.bool cb, .string cn, .string cvo, .string cvt, .slice va vn vc, .slice la ln lc, .slice cia ck ccap]]) (by simp [results, Tryz.results89, go_sem, y0, y1, y2, y3, y4, y5, y6]) rfl ?_
   exact ⟨HP4.out.2.1.setRowNew (by omega) _, (setRow_other _ _ _ _ (by omega)).trans HP4.out.1, _, rfl, itm_row (B := w5.heap.size) (by omega) (by omega) HP4.out.2.2.1, HP4.out.2.2.2⟩
  ·rw [if_neg hsq] at hRB
   have hsq2 : signT t2 sEq = false := by simpa using hsq
   rw [hsq2]; have hC := block_any g oa n oc t (t2 :: r2) (.slice (some ⟨bb, ob, none⟩) N rc) stop last w5 (H0.out.1.below HS2.out.1 hgw) (H0.out.2.1.below HS2.out.1 (Nat.le_refl _)) (H0.out.2.2.2.below HS2.out.1).utf (H0.out.2.2.2.below HS2.out.1).utf.pos (by simp at hn ⊢; omega) (fun t ht => HTT.out.1 t (List.mem_cons_of_mem _ ht)) (fun t ht => HTT.out.2 t (List.mem_cons_of_mem _ ht))
   rw [<- hRB] at hC; obtain ⟨hbl, k0, k1, hz9⟩ := HS2.out; have hl0 := k0.lt; have k0c0 := k0.cell 0 _ rfl; have k0f0 := k0.frozen 0; have k0c1 := k0.cell 1 _ rfl; have k0f1 := k0.frozen 1; have k0c2 := k0.cell 2 _ rfl; have k0f2 := k0.frozen 2; clear hbl k0 k1 hRB hsq hsq2; simp only [lineV] at hC; go_wp2_with fail; clear k0c0 k0c1 k0c2 k0f0 k0f1 k0f2; refine hC.mono ?_; clear hC; rintro _ w4 ⟨hs4, p4, cs, rfl, hin, hi6⟩; obtain ⟨cn, cvo, cvt, va, vn, vc, la, ln, lc, cia, ck, ccap, rfl⟩ := ItmIn.shape7 hin; obtain ⟨hbl, k0, k1, hz9⟩ := HS2.out; have q4 := hs4.cells k1 (by omega)
   have hl4 := q4.lt; have HP4 := Lib.hid (And.intro p4 (And.intro ((Save.of hbl).trans hs4) (And.intro hin hi6))); have HQ4 := Lib.hid q4; clear q4 p4 hs4 hbl k0 k1 hin hi6; generalize (lnX R).block = cb at *; go_wp2_with (with_reducible first | refine stop_store ?_)
   refine Stop.out ?_; refine wpList_store_all rfl 54 _ _ rfl rfl _ rfl #[.bool cb, .string cn, .string cvo, .string cvt, .slice va vn vc, .slice la ln lc, .slice cia ck ccap] rfl _ _ HQ4.out rfl (by kernel_rfl) (one7 _ _ _ _ _ _ _ _ _ _ _ _ _) ?_
   have hqq : Cells (w4.setRow (w.heap.size + 1) #[.bool cb, .string cn, .string cvo, .string cvt, .slice va vn vc, .slice la ln lc, .slice cia ck ccap]) (w.heap.size + 1) #[.bool cb, .string cn, .string cvo, .string cvt, .slice va vn vc, .slice la ln lc, .slice cia ck ccap] 54 := setRow_heap _ _ _ _ _ _ HQ4.out; have y0 := hqq.cell 0 (.bool cb) rfl; have y1 := hqq.cell 1 (.string cn) rfl; have y2 := hqq.cell 2 (.string cvo) rfl; have y3 := hqq.cell 3 (.string cvt) rfl; have y4 := hqq.cell 4 (.slice va vn vc) rfl; have y5 := hqq.cell 5 (.slice la ln lc) rfl; have y6 := hqq.cell 6 (.slice cia ck ccap) rfl; go_wp2; refine bodyPost_ret (v := .tuple #[.int .i64 (lnK R), .agg #[.bool cb, .string cn, .string cvo, .string cvt, .slice va vn vc, .slice la ln lc, .slice cia ck ccap]]) (by simp [results, Tryz.results89, go_sem, y0, y1, y2, y3, y4, y5, y6]) rfl ?_
   exact ⟨HP4.out.2.1.setRowNew (by omega) _, (setRow_other _ _ _ _ (by omega)).trans HP4.out.1, _, rfl, itm_row (B := w5.heap.size) (by omega) (by omega) HP4.out.2.2.1, HP4.out.2.2.2⟩
theorem kind_lack (g : Nat) (oa : Option Addr) (n oc : Nat) (t : Tok) (r : List Tok) (lv : Value) (stop : Int) (last : Bool) (w : World) (h : PBox w g (.slice oa n oc) 0 0) (hr : ToksAt w lv (t :: r)) (ho : ∀ b, lv.ownBlock = some b -> b < w.heap.size) (hT : LexT w) (hn : (t :: r).length <= 900000) (hsh : ∀ u ∈ (t :: r), u.text.size <= 1048576) (hq : ∀ u ∈ (t :: r), u.kind = 3 -> quoX u.text ≠ none) (hB : signT t sRc = true \/ ¬ t.kind = 1) :
  Calls Tryz.prog 89 #[.pointer (some ⟨g, 0, none⟩), lineV lv stop last] w (KindP g (.slice oa n oc) (lineK n (t :: r) stop last) w) := by
 obtain ⟨ra, rc, rfl, hl1, hl2, -⟩ := hr.len; obtain ⟨N, hN⟩ : ∃ N, N = (t :: r).length := ⟨_, rfl⟩; have hNle : N <= (t :: r).length /\ (t :: r).length <= N := by omega
 rw [<- hN] at hr hl1 ho ⊢; unfold maxLen at hl2; have HN := Lib.hid hN; clear hN; obtain ⟨R, hR⟩ : ∃ R, R = lineK n (t :: r) stop last := ⟨_, rfl⟩; have HR := Lib.hid hR; rw [<- hR]; clear hR; have hgw := h.lt; have hbA : Below w.heap.size w ((w.alloc (.cells (lineC (.slice ra N rc) stop last) 86)).alloc (.cells zeroIC.toArray 54)) := ((Below.refl _ w).alloc (Nat.le_refl _) _).alloc (by simp) _
 have kA := (Cells.new w (lineC (.slice ra N rc) stop last) 86).alloc (.cells zeroIC.toArray 54); have kB := Cells.new (w.alloc (.cells (lineC (.slice ra N rc) stop last) 86)) zeroIC.toArray 54; simp only [World.size_alloc] at kB; have hzA : ((w.alloc (.cells (lineC (.slice ra N rc) stop last) 86)).alloc (.cells zeroIC.toArray 54)).heap.size = w.heap.size + 2 := by simp
 have HS := Lib.hid (show KdS w ((w.alloc (.cells (lineC (.slice ra N rc) stop last) 86)).alloc (.cells zeroIC.toArray 54)) (lineC (.slice ra N rc) stop last) from ⟨hbA, kA, kB, by rw [hzA]; exact Nat.le_refl _⟩)
 have H0 := Lib.hid (And.intro h (And.intro hr (And.intro ho hT))); clear hbA kA kB hzA h hr ho hT; simp only [List.length_cons] at hNle hn; have hN1 : 1 <= N := by omega
 have hNz : ((N : Int) == 0) = false := by rw [beq_eq_false_iff_ne]; omega
 obtain ⟨bb, ob, he, hlt, c0, c1, c2⟩ := (H0.out.2.1.below HS.out.1 (Nat.le_refl _)).get (j := 0) (by simp)
 cases he
 simp only [Nat.zero_mul, Nat.add_zero, List.getElem_cons_zero] at c0 c1 c2; have hSg := sign_tok t sRc ((w.alloc (.cells (lineC (.slice (some ⟨bb, ob, none⟩) N rc) stop last) 86)).alloc (.cells zeroIC.toArray 54)); have hRB := HR.out; simp only [lineK] at hRB; rw [isS_cons] at hRB; have HRB := Lib.hid hRB; clear hRB HR; have HTT := Lib.hid (And.intro hsh hq); have htl := hsh t (by simp)
 clear hsh hq; simp only [tokV] at hSg; go_enter Tryz.func89, Tryz.ntmps89; go_wp2_with fail; refine hSg.mono ?_; generalize (w.alloc (.cells (lineC (.slice (some ⟨bb, ob, none⟩) N rc) stop last) 86)).alloc (.cells zeroIC.toArray 54) = w1 at *; clear hSg c0 c1 c2 hlt; rintro _ w2 ⟨rfl, hb2⟩; have HS2 := Lib.hid (HS.out.step hb2); clear hb2 HS; have hRB := HRB.out; clear HRB
 by_cases hsg : signT t sRc = true
 ·rw [if_pos hsg] at hRB
  rw [hsg]; clear hsg
  by_cases h1 : n = 1
  ·rw [if_pos h1] at hRB
   have hn1 : ((n : Int) == 1) = true := by rw [beq_iff_eq]; omega
   have HRR := Lib.hid hRB; clear hRB h1; have hpc := (H0.out.1.below HS2.out.1 hgw).cell 0 _ rfl; have hgl := (H0.out.1.below HS2.out.1 hgw).lt; obtain ⟨hbl, k0, k1, hz9⟩ := HS2.out; have hL := lacks_any g (.slice oa n oc) (t :: r) (.slice (some ⟨bb, ob, none⟩) N rc) stop last (0) _ (H0.out.1.below hbl hgw) (H0.out.2.1.below hbl (Nat.le_refl _)) (by simp; omega)
   rw [<- HRR.out, show (((0 : Nat)) : Int) = 0 from rfl] at hL; have H9 : Hid (lnK R = 0 /\ lnX R = zeroI) := Lib.hid (by rw [HRR.out]; exact lack_zero _ _ _ _)
   simp only [lineV] at hL; have hl0 := k0.lt; have hgl := (H0.out.1.below hbl hgw).lt; have hpc := (H0.out.1.below hbl hgw).cell 0 _ rfl; have k0c0 := k0.cell 0 _ rfl; have k0f0 := k0.frozen 0; have k0c1 := k0.cell 1 _ rfl; have k0f1 := k0.frozen 1; have k0c2 := k0.cell 2 _ rfl; have k0f2 := k0.frozen 2; clear hbl k0 k1; go_wp2_with fail; refine hL.mono ?_; clear hL k0c0 k0c1 k0c2 k0f0 k0f1 k0f2 hpc hgl; rintro _ w4 ⟨rfl, hs4, p4⟩; obtain ⟨hbl, k0, k1, -⟩ := HS2.out; have q4 := hs4.cells k1 (by omega)
   have hl4 := q4.lt; have HP4 := Lib.hid (And.intro p4 ((Save.of hbl).trans hs4)); have HQ4 := Lib.hid q4; have q4c0 := q4.cell 0 _ rfl; have q4f0 := q4.frozen 0; have q4c1 := q4.cell 1 _ rfl; have q4f1 := q4.frozen 1; have q4c2 := q4.cell 2 _ rfl; have q4f2 := q4.frozen 2; have q4c3 := q4.cell 3 _ rfl; have q4f3 := q4.frozen 3; have q4c4 := q4.cell 4 _ rfl; have q4f4 := q4.frozen 4; have q4c5 := q4.cell 5 _ rfl; have q4f5 := q4.frozen 5; have q4c6 := q4.cell 6 _ rfl; have q4f6 := q4.frozen 6; clear q4 p4 hs4 hbl k0 k1; go_wp2_with fail; have hqq := HQ4.out.put zeroIC 0; have y0 := hqq.cell 0 (.bool false) rfl; have y1 := hqq.cell 1 (.string ⟨#[]⟩) rfl; have y2 := hqq.cell 2 (.string ⟨#[]⟩) rfl; have y3 := hqq.cell 3 (.string ⟨#[]⟩) rfl; have y4 := hqq.cell 4 (.slice none 0 0) rfl; have y5 := hqq.cell 5 (.slice none 0 0) rfl; have y6 := hqq.cell 6 (.slice none 0 0) rfl; simp only [setAll] at y0 y1 y2 y3 y4 y5 y6; refine bodyPost_ret (v := .tuple #[.int .i64 0, .agg #[.bool false, .string ⟨#[]⟩, .string ⟨#[]⟩, .string ⟨#[]⟩, .slice none 0 0, .slice none 0 0, .slice none 0 0]]) (by simp [results, Tryz.results89, go_sem, y0, y1, y2, y3, y4, y5, y6]) rfl ?_
   show KindP g (.slice oa n oc) R w _ (setAll w4 (w.heap.size + 1) 0 zeroIC); exact ⟨HP4.out.2.setAllNew (by omega) _, HP4.out.1.setAllOther (by omega), zeroIC, by rw [H9.out.1], (by rw [H9.out.2]; exact ItmIn.zero _ _), rfl⟩
  ·rw [if_neg h1] at hRB
   have hn1 : ((n : Int) == 1) = false := by rw [beq_eq_false_iff_ne]; omega
   simp only [List.length_cons] at hRB
   by_cases h2 : 1 < r.length + 1
   ·rw [if_pos h2] at hRB
    have hd : decide ((1 : Int) < (N : Int)) = true := by rw [decide_eq_true_iff]; omega
    have HRR := Lib.hid hRB; clear hRB h1 h2; obtain ⟨hbl, k0, k1, hz9⟩ := HS2.out; have hL := lacks_any g (.slice oa n oc) (t :: r) (.slice (some ⟨bb, ob, none⟩) N rc) stop last (1) _ (H0.out.1.below hbl hgw) (H0.out.2.1.below hbl (Nat.le_refl _)) (by simp; omega)
    rw [<- HRR.out, show (((1 : Nat)) : Int) = 1 from rfl] at hL; have H9 : Hid (lnK R = 0 /\ lnX R = zeroI) := Lib.hid (by rw [HRR.out]; exact lack_zero _ _ _ _)
    simp only [lineV] at hL; have hl0 := k0.lt; have hgl := (H0.out.1.below hbl hgw).lt; have hpc := (H0.out.1.below hbl hgw).cell 0 _ rfl; have k0c0 := k0.cell 0 _ rfl; have k0f0 := k0.frozen 0; have k0c1 := k0.cell 1 _ rfl; have k0f1 := k0.frozen 1; have k0c2 := k0.cell 2 _ rfl; have k0f2 := k0.frozen 2; clear hbl k0 k1; go_wp2_with fail; refine hL.mono ?_; clear hL k0c0 k0c1 k0c2 k0f0 k0f1 k0f2 hpc hgl; rintro _ w4 ⟨rfl, hs4, p4⟩; obtain ⟨hbl, k0, k1, -⟩ := HS2.out; have q4 := hs4.cells k1 (by omega)
    have hl4 := q4.lt; have HP4 := Lib.hid (And.intro p4 ((Save.of hbl).trans hs4)); have HQ4 := Lib.hid q4; have q4c0 := q4.cell 0 _ rfl; have q4f0 := q4.frozen 0; have q4c1 := q4.cell 1 _ rfl; have q4f1 := q4.frozen 1; have q4c2 := q4.cell 2 _ rfl; have q4f2 := q4.frozen 2; have q4c3 := q4.cell 3 _ rfl; have q4f3 := q4.frozen 3; have q4c4 := q4.cell 4 _ rfl; have q4f4 := q4.frozen 4; have q4c5 := q4.cell 5 _ rfl; have q4f5 := q4.frozen 5; have q4c6 := q4.cell 6 _ rfl; have q4f6 := q4.frozen 6; clear q4 p4 hs4 hbl k0 k1; go_wp2_with fail; have hqq := HQ4.out.put zeroIC 0; have y0 := hqq.cell 0 (.bool false) rfl; have y1 := hqq.cell 1 (.string ⟨#[]⟩) rfl; have y2 := hqq.cell 2 (.string ⟨#[]⟩) rfl; have y3 := hqq.cell 3 (.string ⟨#[]⟩) rfl; have y4 := hqq.cell 4 (.slice none 0 0) rfl; have y5 := hqq.cell 5 (.slice none 0 0) rfl; have y6 := hqq.cell 6 (.slice none 0 0) rfl; simp only [setAll] at y0 y1 y2 y3 y4 y5 y6; refine bodyPost_ret (v := .tuple #[.int .i64 0, .agg #[.bool false, .string ⟨#[]⟩, .string ⟨#[]⟩, .string ⟨#[]⟩, .slice none 0 0, .slice none 0 0, .slice none 0 0]]) (by simp [results, Tryz.results89, go_sem, y0, y1, y2, y3, y4, y5, y6]) rfl ?_
    show KindP g (.slice oa n oc) R w _ (setAll w4 (w.heap.size + 1) 0 zeroIC); exact ⟨HP4.out.2.setAllNew (by omega) _, HP4.out.1.setAllOther (by omega), zeroIC, by rw [H9.out.1], (by rw [H9.out.2]; exact ItmIn.zero _ _), rfl⟩
   ·rw [if_neg h2] at hRB
    have hd : decide ((1 : Int) < (N : Int)) = false := by rw [decide_eq_false_iff_not]; omega
    have HRR := Lib.hid hRB; have H9 : Hid (lnK R = 5 /\ lnX R = zeroI) := Lib.hid (by rw [HRR.out]; exact ⟨rfl, rfl⟩)
    clear hRB h1 h2; obtain ⟨hbl, k0, k1, hz9⟩ := HS2.out; have hpb := H0.out.1.below hbl hgw; have hpc := hpb.cell 0 _ rfl; have hgl := hpb.lt; have hl0 := k0.lt; have hl4 := k1.lt; have p4 : PBox w2 g (.slice oa n oc) (lnE R).1 (lnE R).2 := by rw [HRR.out]; exact hpb
    have HP4 := Lib.hid (And.intro p4 (Save.of (g := g) hbl)); have HQ4 := Lib.hid k1; have k0c0 := k0.cell 0 _ rfl; have k0f0 := k0.frozen 0; have k0c1 := k0.cell 1 _ rfl; have k0f1 := k0.frozen 1; have k0c2 := k0.cell 2 _ rfl; have k0f2 := k0.frozen 2; have k1c0 := k1.cell 0 _ rfl; have k1f0 := k1.frozen 0; have k1c1 := k1.cell 1 _ rfl; have k1f1 := k1.frozen 1; have k1c2 := k1.cell 2 _ rfl; have k1f2 := k1.frozen 2; have k1c3 := k1.cell 3 _ rfl; have k1f3 := k1.frozen 3; have k1c4 := k1.cell 4 _ rfl; have k1f4 := k1.frozen 4; have k1c5 := k1.cell 5 _ rfl; have k1f5 := k1.frozen 5; have k1c6 := k1.cell 6 _ rfl; have k1f6 := k1.frozen 6; clear hbl k0 k1 hpb p4; go_wp2_with fail; have hqq := HQ4.out.put zeroIC 0; have y0 := hqq.cell 0 (.bool false) rfl; have y1 := hqq.cell 1 (.string ⟨#[]⟩) rfl; have y2 := hqq.cell 2 (.string ⟨#[]⟩) rfl; have y3 := hqq.cell 3 (.string ⟨#[]⟩) rfl; have y4 := hqq.cell 4 (.slice none 0 0) rfl; have y5 := hqq.cell 5 (.slice none 0 0) rfl; have y6 := hqq.cell 6 (.slice none 0 0) rfl; simp only [setAll] at y0 y1 y2 y3 y4 y5 y6; refine bodyPost_ret (v := .tuple #[.int .i64 5, .agg #[.bool false, .string ⟨#[]⟩, .string ⟨#[]⟩, .string ⟨#[]⟩, .slice none 0 0, .slice none 0 0, .slice none 0 0]]) (by simp [results, Tryz.results89, go_sem, y0, y1, y2, y3, y4, y5, y6]) rfl ?_
    show KindP g (.slice oa n oc) R w _ (setAll w2 (w.heap.size + 1) 0 zeroIC); exact ⟨HP4.out.2.setAllNew (by omega) _, HP4.out.1.setAllOther (by omega), zeroIC, by rw [H9.out.1], (by rw [H9.out.2]; exact ItmIn.zero _ _), rfl⟩
 ·rw [if_neg hsg] at hRB
  have hsg2 : signT t sRc = false := by simpa using hsg
  have hsg0 := hsg; rw [hsg2]; clear hsg hsg2; obtain ⟨bb3, ob3, he3, hlt3, c0, c1, c2⟩ := (H0.out.2.1.below HS2.out.1 (Nat.le_refl _)).get (j := 0) (by simp)
  cases he3
  simp only [Nat.zero_mul, Nat.add_zero, List.getElem_cons_zero] at c0 c1 c2
  by_cases hk1 : t.kind = 1
  ·exact absurd hk1 (by exact hB.resolve_left hsg0)
  ·rw [if_pos (by simpa using hk1)] at hRB
   have hkk : (t.kind != 1) = true := by simpa using hk1
   have HRR := Lib.hid hRB; have hl00 := HS2.out.2.1.lt; have hc00 := HS2.out.2.1.cell 0 _ rfl; clear hRB hk1; obtain ⟨hbl, k0, k1, hz9⟩ := HS2.out; have hL := lacks_any g (.slice oa n oc) (t :: r) (.slice (some ⟨bb, ob, none⟩) N rc) stop last (0) _ (H0.out.1.below hbl hgw) (H0.out.2.1.below hbl (Nat.le_refl _)) (by simp; omega)
   rw [<- HRR.out, show (((0 : Nat)) : Int) = 0 from rfl] at hL; have H9 : Hid (lnK R = 0 /\ lnX R = zeroI) := Lib.hid (by rw [HRR.out]; exact lack_zero _ _ _ _)
   simp only [lineV] at hL; have hl0 := k0.lt; have hgl := (H0.out.1.below hbl hgw).lt; have hpc := (H0.out.1.below hbl hgw).cell 0 _ rfl; have k0c0 := k0.cell 0 _ rfl; have k0f0 := k0.frozen 0; have k0c1 := k0.cell 1 _ rfl; have k0f1 := k0.frozen 1; have k0c2 := k0.cell 2 _ rfl; have k0f2 := k0.frozen 2; clear hbl k0 k1; go_wp2_with fail; refine hL.mono ?_; clear hL k0c0 k0c1 k0c2 k0f0 k0f1 k0f2 hpc hgl; rintro _ w4 ⟨rfl, hs4, p4⟩; obtain ⟨hbl, k0, k1, -⟩ := HS2.out; have q4 := hs4.cells k1 (by omega)
   have hl4 := q4.lt; have HP4 := Lib.hid (And.intro p4 ((Save.of hbl).trans hs4)); have HQ4 := Lib.hid q4; have q4c0 := q4.cell 0 _ rfl; have q4f0 := q4.frozen 0; have q4c1 := q4.cell 1 _ rfl; have q4f1 := q4.frozen 1; have q4c2 := q4.cell 2 _ rfl; have q4f2 := q4.frozen 2; have q4c3 := q4.cell 3 _ rfl; have q4f3 := q4.frozen 3; have q4c4 := q4.cell 4 _ rfl; have q4f4 := q4.frozen 4; have q4c5 := q4.cell 5 _ rfl; have q4f5 := q4.frozen 5; have q4c6 := q4.cell 6 _ rfl; have q4f6 := q4.frozen 6; clear q4 p4 hs4 hbl k0 k1; go_wp2_with fail; have hqq := HQ4.out.put zeroIC 0; have y0 := hqq.cell 0 (.bool false) rfl; have y1 := hqq.cell 1 (.string ⟨#[]⟩) rfl; have y2 := hqq.cell 2 (.string ⟨#[]⟩) rfl; have y3 := hqq.cell 3 (.string ⟨#[]⟩) rfl; have y4 := hqq.cell 4 (.slice none 0 0) rfl; have y5 := hqq.cell 5 (.slice none 0 0) rfl; have y6 := hqq.cell 6 (.slice none 0 0) rfl; simp only [setAll] at y0 y1 y2 y3 y4 y5 y6; refine bodyPost_ret (v := .tuple #[.int .i64 0, .agg #[.bool false, .string ⟨#[]⟩, .string ⟨#[]⟩, .string ⟨#[]⟩, .slice none 0 0, .slice none 0 0, .slice none 0 0]]) (by simp [results, Tryz.results89, go_sem, y0, y1, y2, y3, y4, y5, y6]) rfl ?_
   show KindP g (.slice oa n oc) R w _ (setAll w4 (w.heap.size + 1) 0 zeroIC); exact ⟨HP4.out.2.setAllNew (by omega) _, HP4.out.1.setAllOther (by omega), zeroIC, by rw [H9.out.1], (by rw [H9.out.2]; exact ItmIn.zero _ _), rfl⟩
theorem kind_any (g : Nat) (oa : Option Addr) (n oc : Nat) (row : List Tok) (lv : Value) (stop : Int) (last : Bool) (w : World) (h : PBox w g (.slice oa n oc) 0 0) (hr : ToksAt w lv row) (ho : ∀ b, lv.ownBlock = some b -> b < w.heap.size) (hT : LexT w) (hn : row.length <= 900000) (hsh : ∀ t ∈ row, t.text.size <= 1048576) (hq : ∀ t ∈ row, t.kind = 3 -> quoX t.text ≠ none) :
  Calls Tryz.prog 89 #[.pointer (some ⟨g, 0, none⟩), lineV lv stop last] w (KindP g (.slice oa n oc) (lineK n row stop last) w) := by
 cases row with
 | nil => exact kind_nil g oa n oc lv stop last w h hr ho hT hn hsh hq
 | cons t r =>
  by_cases h1 : signT t sRc = true
  ·exact kind_lack g oa n oc t r lv stop last w h hr ho hT hn hsh hq (.inl h1)
  ·by_cases h2 : t.kind = 1
   ·exact kind_tab g oa n oc t r lv stop last w h hr ho hT hn hsh hq (by simpa using h1) h2
   ·exact kind_lack g oa n oc t r lv stop last w h hr ho hT hn hsh hq (.inr h2)
def setL (xs : List Value) : Nat -> List Value -> List Value
 | _, [] => xs
 | o, v :: r => setL (xs.set o v) (o + 1) r
theorem setL_end : ∀ (vs zs ts : List Value), zs.length = vs.length -> setL (ts ++ zs) ts.length vs = ts ++ vs
 | [], [], ts, _ => rfl
 | [], _ :: _, _, h => by simp at h
 | _ :: _, [], _, h => by simp at h
 | v :: r, z :: zs, ts, h => by
  have ih := setL_end r zs (ts ++ [v]) (by simpa using h)
  simp only [List.length_append, List.length_cons, List.length_nil, List.append_assoc, List.cons_append, List.nil_append] at ih; rw [setL, List.set_append_right _ _ (Nat.le_refl _), Nat.sub_self, List.set_cons_zero]; exact ih
theorem own_cells {base g n cap size : Nat} {e : TypeId} : ∀ (vs : List Value) (o : Nat) {w : World} {xs : List Value}, w.ownsRow base e size (.slice (some ⟨g, 0, none⟩) n cap) n xs -> (w.setCells g o vs).ownsRow base e size (.slice (some ⟨g, 0, none⟩) n cap) n (setL xs o vs)
 | [], _, _, _, h => h
 | v :: r, o, _, _, h => own_cells r (o + 1) (h.stored o v).1
theorem grown_cells (g : Nat) : ∀ (vs : List Value) (o : Nat) (w : World), w.grownBy (w.setCells g o vs) (some g)
 | [], _, w => ⟨rfl, rfl, rfl, Nat.le_refl _, fun _ _ _ => rfl⟩
 | v :: r, o, w => World.grownBy.trans (b := w.setCell ⟨g, o, none⟩ v) ⟨rfl, rfl, rfl, by simp [World.setCell], fun k _ hk => heap_setCell_other w ⟨g, o, none⟩ k v (fun e => hk (by simp [e]))⟩ (grown_cells g r (o + 1) _)
section
variable {P : Program}
end
theorem zeroIC_one : ∀ u ∈ zeroIC, u.oneCell' = true := by
 intro u hu; simp [zeroIC] at hu
 rcases hu with rfl | rfl | rfl | rfl | rfl | rfl | rfl <;> rfl
theorem zero_at {n : Nat} (w : World) (hw : w.heap.size = n) (j : Nat) (u : Value) (hu : zeroIC[j]? = some u) : (w.alloc (.cells zeroIC.toArray 54)).cell? ⟨n, j, none⟩ = some u := by
 subst hw; rw [World.cell?_alloc_new]
 simpa using hu
theorem two_size (w : World) (o1 o2 : Obj) : ((w.alloc o1).alloc o2).heap.size = w.heap.size + 2 := by
 rw [World.size_alloc, World.size_alloc]
theorem add_at {w : World} {base k n ob oc : Nat} {v : Value} {ts os : List Value} (o : Obj) (hb : base <= w.heap.size) (h1 : w.ownsRow base 54 7 v k ts) (h2 : w.ownsRow base 54 7 (.slice (some ⟨ob, 0, none⟩) n oc) n os) :
  (((w.alloc o).alloc (.cells zeroIC.toArray 54)).drew.drew.ownsRow base 54 7 v k ts) /\ (((w.alloc o).alloc (.cells zeroIC.toArray 54)).drew.drew.ownsRow base 54 7 (.slice (some ⟨ob, 0, none⟩) n oc) n os) /\
  (∀ (j : Nat) (u : Value), zeroIC[j]? = some u -> ((w.alloc o).alloc (.cells zeroIC.toArray 54)).drew.drew.cell? ⟨w.heap.size + 1, j, none⟩ = some u) /\ base <= ((w.alloc o).alloc (.cells zeroIC.toArray 54)).drew.drew.heap.size /\ ((w.alloc o).alloc (.cells zeroIC.toArray 54)).drew.drew.heap.size = w.heap.size + 2 /\ Below w.heap.size w ((w.alloc o).alloc (.cells zeroIC.toArray 54)).drew.drew :=
 ⟨show ((w.alloc o).alloc (.cells zeroIC.toArray 54)).ownsRow _ _ _ _ _ _ from (h1.alloc _).alloc _, show ((w.alloc o).alloc (.cells zeroIC.toArray 54)).ownsRow _ _ _ _ _ _ from (h2.alloc _).alloc _,
  fun j u hu => zero_at (w.alloc o) (World.size_alloc w _) j u hu, Nat.le_trans hb (Nat.le_trans (Nat.le_add_right _ 2) (Nat.le_of_eq (two_size w o (.cells zeroIC.toArray 54)).symm)), two_size w o _, ((((Below.refl _ w).alloc (Nat.le_refl _) _).alloc (by simp) _).drew).drew⟩
theorem new_at {w : World} {base k g cap : Nat} {ts : List Value} (h : w.ownsRow base 54 7 (.slice (some ⟨g, 0, none⟩) (k + 1) cap) (k + 1) (ts ++ zeroIC)) (hl : ts.length = k * 7) (j : Nat) (u : Value) (hu : zeroIC[j]? = some u) : w.cell? ⟨g, k * 7 + j, none⟩ = some u := by
 have hj : j < 7 := (List.getElem?_eq_some_iff.1 hu).1; rw [h.cellAt _ (by omega), List.getElem?_append_right (by omega), show k * 7 + j - ts.length = j by omega]
 exact hu
theorem new_at0 {w : World} {base k g cap : Nat} {ts : List Value} (h : w.ownsRow base 54 7 (.slice (some ⟨g, 0, none⟩) (k + 1) cap) (k + 1) (ts ++ zeroIC)) (hl : ts.length = k * 7) : w.cell? ⟨g, k * 7, none⟩ = some (.bool false) := new_at h hl 0 _ rfl
theorem add_far {v : Value} {g ob H n : Nat} (h : v.ownBlock = some g \/ g = H) (hH : H = n + 2) (hne : v.ownBlock ≠ some ob) (hl : ob < n) : ¬ g = ob /\ (v.ownBlock = some g \/ g = n + 2) :=
 ⟨fun e => h.elim (fun q => hne (by rw [q, e])) (fun q => by omega), h.imp id (fun q => q.trans hH)⟩
def AddP (base ob oc M k : Nat) (os ts xs : List Value) (tv : Value) (w : World) (r : Ending) (w' : World) : Prop :=
 r = .returned (.tuple #[]) /\ ∃ g2 cap2, w'.ownsRow base 54 7 (.slice (some ⟨g2, 0, none⟩) (k + 1) cap2) (k + 1) (ts ++ xs) /\
  w'.ownsRow base 54 7 (.slice (some ⟨ob, 0, none⟩) (M + 1) oc) (M + 1) (os.set (M * 7 + 6) (.slice (some ⟨g2, 0, none⟩) (k + 1) cap2)) /\
  (tv.ownBlock = some g2 \/ w.heap.size <= g2) /\ Below 0 w w' /\ (∀ b, b < w.heap.size -> b ≠ ob -> tv.ownBlock ≠ some b -> w'.heap[b]? = w.heap[b]?)
section
variable {base ob oc M N k g3 cap3 : Nat} {os ts xs : List Value} {tv : Value} {w W w3 : World}
theorem add_far2 {b : Nat} (hat : tv.ownBlock = some g3 \/ g3 = w.heap.size + 2) (h1 : b < w.heap.size) (h2 : tv.ownBlock ≠ some b) : b ≠ g3 := fun e => hat.elim (fun q => h2 (by rw [q, e])) (fun q => by omega)
theorem add_end1 (hx : xs.length = 7) (HN : N = M + 1) (hL : ts.length = k * 7) (hne : ¬ g3 = ob) (hW : Below w.heap.size w W) (h1 : w3.ownsRow base 54 7 (.slice (some ⟨g3, 0, none⟩) (k + 1) cap3) (k + 1) (ts ++ zeroIC)) (h2 : W.grownBy w3 tv.ownBlock) (hat : tv.ownBlock = some g3 \/ g3 = w.heap.size + 2)
  (h3 : w3.ownsRow base 54 7 (.slice (some ⟨ob, 0, none⟩) N oc) N os) : AddP base ob oc M k os ts xs tv w (.returned (.tuple #[])) ((w3.setCells g3 (k * 7) xs).setCell ⟨ob, M * 7 + 6, none⟩ (.slice (some ⟨g3, 0, none⟩) (k + 1) cap3)) := by
 subst HN; have a1 := own_cells xs (k * 7) h1; rw [<- hL, setL_end xs zeroIC ts (by rw [hx]; rfl), hL] at a1
 have a2 := grown_cells g3 xs (k * 7) w3; have a3 := h3.kept a2 (.inr (fun e => hne (by simpa [Value.ownBlock] using e.symm)))
 obtain ⟨a4, a5⟩ := a3.stored (M * 7 + 6) (.slice (some ⟨g3, 0, none⟩) (k + 1) cap3); refine ⟨rfl, g3, cap3, a1.kept a5 (.inr (fun e => hne (by simpa [Value.ownBlock] using e))), a4, hat.imp id (fun q => by omega), ?_, fun b hb1 hb2 hb3 => ?_⟩
 ·exact ((((hW.mono (Nat.zero_le _)).grown h2 (Nat.zero_le _) (fun _ _ => Nat.zero_le _)).grown a2 (Nat.zero_le _) (fun _ _ => Nat.zero_le _)).grown a5 (Nat.zero_le _) (fun _ _ => Nat.zero_le _))
 ·have z1 := hW.size
  have z2 := h2.size; have z3 := a2.size; rw [a5.block b (by omega) (fun e => hb2 (Option.some.inj e)), a2.block b (by omega) (fun e => add_far2 hat hb1 hb3 (Option.some.inj e)), h2.block b (by omega) (fun e => hb3 e.symm)]
  exact hW.block b hb1
theorem add_end2 (hx : xs.length = 7) (HN : N = M + 1) (hL : ts.length = k * 7) (hne : ¬ g3 = ob) (hW : Below w.heap.size w W) (h1 : w3.ownsRow base 54 7 (.slice (some ⟨g3, 0, none⟩) (k + 1) cap3) (k + 1) (ts ++ zeroIC)) (h2 : W.grownBy w3 tv.ownBlock) (hat : tv.ownBlock = some g3 \/ g3 = w.heap.size + 2)
  (h3 : w3.ownsRow base 54 7 (.slice (some ⟨ob, 0, none⟩) N oc) N os) : AddP base ob oc M k os ts xs tv w (.returned (.tuple #[])) ((w3.setCell ⟨ob, M * 7 + 6, none⟩ (.slice (some ⟨g3, 0, none⟩) (k + 1) cap3)).setCells g3 (k * 7) xs) := by
 subst HN; obtain ⟨a4, a5⟩ := h3.stored (M * 7 + 6) (.slice (some ⟨g3, 0, none⟩) (k + 1) cap3); have a1 := own_cells xs (k * 7) (h1.kept a5 (.inr (fun e => hne (by simpa [Value.ownBlock] using e))))
 rw [<- hL, setL_end xs zeroIC ts (by rw [hx]; rfl), hL] at a1
 have a2 := grown_cells g3 xs (k * 7) (w3.setCell ⟨ob, M * 7 + 6, none⟩ (.slice (some ⟨g3, 0, none⟩) (k + 1) cap3)); refine ⟨rfl, g3, cap3, a1, a4.kept a2 (.inr (fun e => hne (by simpa [Value.ownBlock] using e.symm))), hat.imp id (fun q => by omega), ?_, fun b hb1 hb2 hb3 => ?_⟩
 ·exact ((((hW.mono (Nat.zero_le _)).grown h2 (Nat.zero_le _) (fun _ _ => Nat.zero_le _)).grown a5 (Nat.zero_le _) (fun _ _ => Nat.zero_le _)).grown a2 (Nat.zero_le _) (fun _ _ => Nat.zero_le _))
 ·have z1 := hW.size
  have z2 := h2.size; have z3 := a5.size; rw [a2.block b (by omega) (fun e => add_far2 hat hb1 hb3 (Option.some.inj e)), a5.block b (by omega) (fun e => hb2 (Option.some.inj e)), h2.block b (by omega) (fun e => hb3 e.symm)]
  exact hW.block b hb1
theorem add_c1 {a0 a1 a2 a3 a4 a5 a6 : Value} (HN : N = M + 1) (hL : ts.length = k * 7) (hne : ¬ g3 = ob) (h1 : w3.ownsRow base 54 7 (.slice (some ⟨g3, 0, none⟩) (k + 1) cap3) (k + 1) (ts ++ zeroIC)) (h2 : W.grownBy w3 tv.ownBlock) (hat : tv.ownBlock = some g3 \/ g3 = w.heap.size + 2)
  (h3 : w3.ownsRow base 54 7 (.slice (some ⟨ob, 0, none⟩) N oc) N os) (hW : Below w.heap.size w W) : AddP base ob oc M k os ts [a0, a1, a2, a3, a4, a5, a6] tv w (.returned (.tuple #[])) ((((((((w3.setCell ⟨g3, k * 7, none⟩ a0).setCell ⟨g3, k * 7 + 1, none⟩ a1).setCell ⟨g3, k * 7 + 2, none⟩ a2).setCell ⟨g3, k * 7 + 3, none⟩ a3).setCell ⟨g3, k * 7 + 4, none⟩ a4).setCell ⟨g3, k * 7 + 5, none⟩ a5).setCell ⟨g3, k * 7 + 6, none⟩ a6).setCell ⟨ob, M * 7 + 6, none⟩ (.slice (some ⟨g3, 0, none⟩) (k + 1) cap3)) :=
 add_end1 (xs := [a0, a1, a2, a3, a4, a5, a6]) rfl HN hL hne hW h1 h2 hat h3
theorem add_c2 {a0 a1 a2 a3 a4 a5 a6 : Value} (HN : N = M + 1) (hL : ts.length = k * 7) (hne : ¬ g3 = ob) (h1 : w3.ownsRow base 54 7 (.slice (some ⟨g3, 0, none⟩) (k + 1) cap3) (k + 1) (ts ++ zeroIC)) (h2 : W.grownBy w3 tv.ownBlock) (hat : tv.ownBlock = some g3 \/ g3 = w.heap.size + 2)
  (h3 : w3.ownsRow base 54 7 (.slice (some ⟨ob, 0, none⟩) N oc) N os) (hW : Below w.heap.size w W) : AddP base ob oc M k os ts [a0, a1, a2, a3, a4, a5, a6] tv w (.returned (.tuple #[])) ((((((((w3.setCell ⟨ob, M * 7 + 6, none⟩ (.slice (some ⟨g3, 0, none⟩) (k + 1) cap3)).setCell ⟨g3, k * 7, none⟩ a0).setCell ⟨g3, k * 7 + 1, none⟩ a1).setCell ⟨g3, k * 7 + 2, none⟩ a2).setCell ⟨g3, k * 7 + 3, none⟩ a3).setCell ⟨g3, k * 7 + 4, none⟩ a4).setCell ⟨g3, k * 7 + 5, none⟩ a5).setCell ⟨g3, k * 7 + 6, none⟩ a6) :=
 add_end2 (xs := [a0, a1, a2, a3, a4, a5, a6]) rfl HN hL hne hW h1 h2 hat h3
end
theorem add_any (g ob oc M k base : Nat) (a e : Int) (os ts : List Value) (tv : Value) (xb : Bool) (xn xo xs : ByteArray) (va : Option Addr) (vn vc : Nat) (la : Option Addr) (ln lc : Nat) (ia : Option Addr) (ik ic : Nat) (w : World)
  (h : PBox w g (.slice (some ⟨ob, 0, none⟩) (M + 1) oc) a e) (ho : w.ownsRow base 54 7 (.slice (some ⟨ob, 0, none⟩) (M + 1) oc) (M + 1) os) (ht : os[M * 7 + 6]? = some tv) (hts : w.ownsRow base 54 7 tv k ts)
  (hne : tv.ownBlock ≠ some ob) (hgo : g ≠ ob) (hgt : tv.ownBlock ≠ some g) (hM : M <= 1000000) (hk : k <= 1000000) (hb : base <= w.heap.size) :
  Calls Tryz.prog 90 #[.pointer (some ⟨g, 0, none⟩), .agg #[.bool xb, .string xn, .string xo, .string xs, .slice va vn vc, .slice la ln lc, .slice ia ik ic]] w (AddP base ob oc M k os ts [.bool xb, .string xn, .string xo, .string xs, .slice va vn vc, .slice la ln lc, .slice ia ik ic] tv w) := by
 obtain ⟨ta, tc, rfl⟩ : ∃ ta tc, tv = .slice ta k tc := by
  rcases hts.2 with ⟨h1, h2⟩ | ⟨g', cap', cur, h1, -⟩
  ·exact ⟨none, 0, by rw [h1, h2]⟩
  ·exact ⟨_, _, h1⟩
 obtain ⟨i0, hi0, hi1⟩ := Option.map_eq_some_iff.1 Tryz.infoItm; simp only [Prod.mk.injEq] at hi1; obtain ⟨hz0, hz1, hz2⟩ := hi1; have hgl := h.lt; have hol := (World.ownsRow.lt ho ob rfl).2; obtain ⟨N, hN⟩ : ∃ N, N = M + 1 := ⟨_, rfl⟩; have hNle : N <= M + 1 /\ M + 1 <= N := by omega
 rw [<- hN] at h ho; have HN := Lib.hid hN; clear hN; have hNM : (N : Int) - 1 = (M : Int) := by omega
 have hMN : M < N := by omega
 have hc6 : w.cell? ⟨ob, M * 7 + 6, none⟩ = some (.slice ta k tc) := by rw [ho.cellAt _ (by omega)]; exact ht
 have hf6 : w.frozen? ⟨ob, M * 7 + 6, none⟩ = false := ho.frozenAt _; have HH := Lib.hid (And.intro h (And.intro ho hts)); have hpc := h.cell 0 _ rfl; clear h ho hts; go_enter Tryz.func90, Tryz.ntmps90; go_wp2_with fail; have HL := Lib.hid HH.out.2.2.1; have HQ := Lib.hid (add_at (.cells #[.bool xb, .string xn, .string xo, .string xs, .slice va vn vc, .slice la ln lc, .slice ia ik ic] 54) hb HH.out.2.2 HH.out.2.1); have hkk : (k : Int) < (k : Int) + 1 := by omega
 go_region
 all_goals
  go_wp2_with fail
 go_region_law (first
  | (refine step_append_lies _ rfl _ _ 42 rfl base 54 i0 _ 7 128 Tryz.underlying42 hi0 hz0 hz1 hz2 rfl (by decide) (.slice ta k tc) k ts (by rfl) (by exact HQ.out.1) ⟨w.heap.size + 1, 0, none⟩ 1 1 zeroIC (by rfl) rfl (by intro j u hu; rw [Addr.add_lit, Nat.zero_add]; exact HQ.out.2.2.1 j u hu) zeroIC_one (by omega) (by unfold maxLen; omega) (by omega) (by exact HQ.out.2.2.2.1) _ rfl ?_; intro g3 cap3 w3 hown3 hgrow3 hat3 hlt3; have ho3 := HQ.out.2.1.kept hgrow3 (.inr (fun e => hne e.symm)); have o7c := (ho3.cellAt (M * 7 + 6) (by omega)).trans ht; have o7f := ho3.frozenAt (M * 7 + 6); have m0 := new_at0 hown3 HL.out; have m0f := hown3.frozenAt (k * 7); have m1 := new_at hown3 HL.out 1 _ rfl; have m1f := hown3.frozenAt (k * 7 + 1); have m2 := new_at hown3 HL.out 2 _ rfl; have m2f := hown3.frozenAt (k * 7 + 2); have m3 := new_at hown3 HL.out 3 _ rfl; have m3f := hown3.frozenAt (k * 7 + 3); have m4 := new_at hown3 HL.out 4 _ rfl; have m4f := hown3.frozenAt (k * 7 + 4); have m5 := new_at hown3 HL.out 5 _ rfl; have m5f := hown3.frozenAt (k * 7 + 5); have m6 := new_at hown3 HL.out 6 _ rfl; have m6f := hown3.frozenAt (k * 7 + 6); have hat4 := add_far hat3 HQ.out.2.2.2.2.1 hne hol; have hg3 := hat4.1; have hg3' : ¬ ob = g3 := fun e => hg3 e.symm; have HG := Lib.hid (And.intro hown3 (And.intro hgrow3 (And.intro hat4.2 ho3))); clear hown3 hgrow3 hat3 ho3 hat4))
 all_goals
  refine bodyPost_end (v := .tuple #[]) (by simp [results, Tryz.results90, go_sem]) rfl ?_
 all_goals
  obtain ⟨q1, q2, q3, q4⟩ := HG.out
  first
   | (with_reducible refine add_c1 HN.out HL.out hg3 q1 q2 q3 q4 ?_)
   | (with_reducible refine add_c2 HN.out HL.out hg3 q1 q2 q3 q4 ?_)
  exact HQ.out.2.2.2.2.2
theorem OneAt.fresh {P : Nat -> Prop} {B : Nat} {w : World} {x : Itm} {cs : List Value} (h : ItmIn P w x cs) (h6 : cs[6]? = some (.slice none 0 0)) : OneAt P B w ⟨x, cs, .slice none 0 0⟩ := by
 obtain ⟨b, n, e, ls, its⟩ := x; unfold ItmIn at h; obtain ⟨vo, vt, vk, lv, a, cap, rfl, h1, h2, -⟩ := h.open; simp only [List.getElem?_cons_succ, List.getElem?_cons_zero, Option.some.injEq, Value.slice.injEq] at h6; obtain ⟨rfl, hl, rfl⟩ := h6; obtain rfl := List.eq_nil_of_length_eq_zero hl; exact ⟨b, n, e, ls, vo, vt, vk, lv, [], rfl, rfl, h1, h2, World.ownsRow_nil _ _ _ _, fun s hs => by cases hs⟩
theorem OneAt.itm {P Q : Nat -> Prop} {B : Nat} {w : World} {c : Opn} (h : OneAt P B w c) (hq : ∀ k, P k -> k < w.heap.size -> Q k) (hi : ∀ k, c.iv.ownBlock = some k -> Q k) : ItmIn Q w c.x c.cs := by
 obtain ⟨b, n, e, ls, vo, vt, vk, lv, L, h1, h2, h3, h4, h5, h6⟩ := h; rw [h1, h2]; have hm : ∀ s ∈ L, ItmIn Q w s.1 s.2 := fun s hs => ItmIn.move (Nat.le_refl _) (fun _ _ _ => rfl) hq _ _ (h6 s hs)
 have h7 : ∀ cs ∈ L.map (·.2), cs.length = 7 := fun cs hcs => by
  obtain ⟨s, hs, rfl⟩ := List.mem_map.1 hcs; exact ItmR.len7 (hm s hs)
 have hown : OwnC B w c.iv (L.map (·.2)) := ⟨by rw [List.length_map, <- List.flatMap_def]; exact h5, h7⟩
 have e3 := ExpIn.move (Nat.le_refl _) (fun _ _ _ => rfl) hq e _ h3; have e4 := h4.move (Q := Q) (Nat.le_refl _) (fun _ _ _ => rfl) hq
 have hform : ∃ a cap, c.iv = .slice a L.length cap /\ L.length <= cap /\ cap <= maxLen /\ (a = none -> cap = 0) /\ ∀ x, a = some x -> x.spot = none /\ c.iv.ownBlock = some x.block := by
  rcases h5.2 with ⟨q1, q2⟩ | ⟨g, cap, cur, q1, -, -, q2, q3, -⟩
  ·exact ⟨none, 0, by rw [q1, q2], by rw [q2]; exact Nat.le_refl _, Nat.zero_le _, fun _ => rfl, fun x hx => by cases hx⟩
  ·exact ⟨_, cap, q1, q2, q3, (fun h => by cases h), fun x hx => by cases hx; exact ⟨rfl, by rw [q1]; rfl⟩⟩
 obtain ⟨a, cap, q1, q2, q3, q4, q5⟩ := hform; unfold ItmIn; simp only [ItmR]; refine ⟨vo, vt, vk, lv, a, cap, by rw [q1, List.length_map], e3, e4, by rw [List.length_map]; exact q2, q3, q4, fun x hx hne => ?_⟩
 obtain ⟨r1, r2⟩ := q5 x hx; refine ⟨r1, ⟨(World.ownsRow.lt h5 _ r2).2, hi _ r2⟩, ItmsR.make _ _ (fun k hk => ?_)⟩; rw [List.length_map] at hk; rw [q1] at hown; obtain ⟨g, he, -, -, hc, -⟩ := hown.cellAt (k := k) (by simpa using hk)
 rw [hx] at he; cases he
 refine ⟨L[k].2, fun j u hu => ?_, ?_⟩
 ·rw [Nat.zero_add]
  exact hc j u (by simpa using hu)
 ·rw [List.getElem_map]
  exact hm _ (List.getElem_mem hk)
theorem StC.push {B g g2 cap2 : Nat} {rb : Option Nat} {w w' : World} {v : Value} {C : List Opn} {c : Opn} (h : StC B g rb w v C) (hx : OneAt (Inn B g rb v C) B w c) (hn : c.iv.ownBlock = none)
  (h1 : w'.ownsRow B 54 7 (.slice (some ⟨g2, 0, none⟩) (C.length + 1) cap2) (C.length + 1) (C.flatMap (·.cs) ++ c.cs)) (h3 : v.ownBlock = some g2 \/ w.heap.size <= g2) (hs : w.heap.size <= w'.heap.size)
  (hf : ∀ b, b < w.heap.size -> v.ownBlock ≠ some b -> b ≠ g -> w'.heap[b]? = w.heap[b]?) : StC B g rb w' (.slice (some ⟨g2, 0, none⟩) (C.length + 1) cap2) (C ++ [c]) := by
 have hP : ∀ b, Inn B g rb v C b -> b < w.heap.size -> Inn B g rb (.slice (some ⟨g2, 0, none⟩) (C.length + 1) cap2) (C ++ [c]) b := fun b hb hl => by
  refine ⟨hb.1, hb.2.1, hb.2.2.1, fun e => ?_, fun d hd => ?_⟩
  ·simp only [Value.ownBlock, Option.some.injEq] at e
   subst e; exact h3.elim hb.2.2.2.1 (fun q => by omega)
  ·rcases List.mem_append.1 hd with hd | hd
   ·exact hb.2.2.2.2 d hd
   ·simp at hd; subst hd; rw [hn]; simp
 have hC : ∀ b, Inn B g rb v C b -> b < w.heap.size -> w'.heap[b]? = w.heap[b]? := fun b hb hl => hf b hl hb.2.2.2.1 hb.2.1
 have hiv : ∀ d ∈ C, ∀ b, d.iv.ownBlock = some b -> b ≠ g2 := fun d hd b e q => by
  subst q; exact h3.elim (h.apart.one d hd b e).1 (fun q => by have := (h.lt (.inr ⟨d, hd, e⟩)).2; omega)
 refine ⟨Nat.lt_of_lt_of_le h.gl hs, fun b e => Nat.lt_of_lt_of_le (h.rl b e) hs, by simpa using h1, ⟨fun e => ?_, fun b e e2 => ?_, h.apart.rg, fun d hd b e => ?_, ?_⟩, fun d hd => ?_⟩
 ·simp only [Value.ownBlock, Option.some.injEq] at e
  subst e; exact h3.elim h.apart.vg (fun q => by have := h.gl; omega)
 ·simp only [Value.ownBlock, Option.some.injEq] at e
  subst e; exact h3.elim (fun q => h.apart.vr _ q e2) (fun q => by have := h.rl _ e2; omega)
 ·rcases List.mem_append.1 hd with hd | hd
  ·exact ⟨fun q => by simp only [Value.ownBlock, Option.some.injEq] at q; exact hiv d hd b e q.symm, (h.apart.one d hd b e).2⟩
  ·simp at hd; subst hd; rw [hn] at e; cases e
 ·rw [List.pairwise_append]
  refine ⟨h.apart.two, by simp, fun d _ d2 hd2 b _ => ?_⟩
  simp at hd2; subst hd2; rw [hn]; simp
 ·rcases List.mem_append.1 hd with hd | hd
  ·exact (h.all d hd).move hs hC hP (fun b e => hf b (h.lt (.inr ⟨d, hd, e⟩)).2 (h.apart.one d hd b e).1 (h.apart.one d hd b e).2.1)
  ·simp at hd; subst hd
   exact hx.move hs hC hP (fun b e => by rw [hn] at e; cases e)
theorem StC.pop {B g ob cap : Nat} {rb : Option Nat} {w w' : World} {C : List Opn} {c : Opn} (h : StC B g rb w (.slice (some ⟨ob, 0, none⟩) (C.length + 1) cap) (C ++ [c])) (hC0 : 0 < C.length) (hs : w.heap.size <= w'.heap.size) (hf : ∀ b, b < w.heap.size -> b ≠ g -> w'.heap[b]? = w.heap[b]?) :
  StC B g rb w' (.slice (some ⟨ob, 0, none⟩) C.length cap) C /\ ItmIn (Inn B g rb (.slice (some ⟨ob, 0, none⟩) C.length cap) C) w' c.x c.cs := by
 have h7 : ∀ d ∈ C, d.cs.length = 7 := fun d hd => (h.all d (by simp [hd])).len
 have hP : ∀ b, Inn B g rb (.slice (some ⟨ob, 0, none⟩) (C.length + 1) cap) (C ++ [c]) b -> b < w.heap.size -> Inn B g rb (.slice (some ⟨ob, 0, none⟩) C.length cap) C b := fun b hb hl =>
  ⟨hb.1, hb.2.1, hb.2.2.1, hb.2.2.2.1, fun d hd => hb.2.2.2.2 d (by simp [hd])⟩
 have hK : ∀ b, Inn B g rb (.slice (some ⟨ob, 0, none⟩) (C.length + 1) cap) (C ++ [c]) b -> b < w.heap.size -> w'.heap[b]? = w.heap[b]? := fun b hb hl => hf b hl hb.2.1
 have hrow : w.ownsRow B 54 7 (.slice (some ⟨ob, 0, none⟩) C.length cap) C.length (C.flatMap (·.cs)) := by
  have hr := h.row; rw [show (C ++ [c]).length = C.length + 1 by simp] at hr
  obtain ⟨r1, r2⟩ := hr; refine ⟨flat_len C h7, ?_⟩; rcases r2 with ⟨q, -⟩ | ⟨g', cap', cur, q, q1, q2, q3, q4, q5, q6⟩
  ·cases q
  ·cases q
   refine .inr ⟨_, _, cur, rfl, q1, q2, by omega, q4, q5, ?_⟩
   have := congrArg (List.take (C.length * 7)) q6; rw [List.take_take, List.flatMap_append, List.take_append_of_le_length (by rw [flat_len C h7]; exact Nat.le_refl _), List.take_of_length_le (l := C.flatMap _) (by rw [flat_len C h7]; exact Nat.le_refl _)] at this
   rw [<- this]
   congr 1
   omega
 have hw := h.apart.two; rw [List.pairwise_append] at hw; refine ⟨⟨Nat.lt_of_lt_of_le h.gl hs, fun b e => Nat.lt_of_lt_of_le (h.rl b e) hs, own_moved hrow (fun k e => hf k (h.lt (.inl e)).2 (fun q => h.apart.vg (by subst q; exact e))), ⟨h.apart.vg, h.apart.vr, h.apart.rg, fun d hd b e => h.apart.one d (by simp [hd]) b e, hw.1⟩, fun d hd => ?_⟩, ?_⟩
 ·exact (h.all d (by simp [hd])).move hs hK hP (fun b e => hf b (h.lt (.inr ⟨d, by simp [hd], e⟩)).2 (h.apart.one d (by simp [hd]) b e).2.1)
 ·have h9 : OneAt (Inn B g rb (.slice (some ⟨ob, 0, none⟩) C.length cap) C) B w' c := (h.all c (by simp)).move hs hK hP (fun b e => hf b (h.lt (.inr ⟨c, by simp, e⟩)).2 (h.apart.one c (by simp) b e).2.1)
  refine h9.itm (fun _ q _ => q) (fun b e => ?_); have a1 := h.apart.one c (by simp) b e
  exact ⟨(h.lt (.inr ⟨c, by simp, e⟩)).1, a1.2.1, a1.2.2, a1.1, fun d hd e2 => hw.2.2 d hd c (by simp) b e2 e⟩
def KeepR (B : Nat) (rb : Option Nat) (w w' : World) : Prop := Below B w w' /\ ∀ b, rb = some b -> w'.heap[b]? = w.heap[b]?
theorem KeepR.trans {B : Nat} {rb : Option Nat} {a b c : World} (h : KeepR B rb a b) (hs : B <= a.heap.size) (k : KeepR B rb b c) : KeepR B rb a c := ⟨h.1.trans k.1, fun x e => (k.2 x e).trans (h.2 x e)⟩
theorem addC_any {B g : Nat} {rb : Option Nat} {w : World} {v : Value} {C : List Opn} {c : Opn} {x : Itm} {xs : List Value} (a e : Int) (h : StC B g rb w v (C ++ [c])) (hp : PBox w g v a e) (hx : ItmIn (Inn B g rb v (C ++ [c])) w x xs) (hn : C.length <= 1000000) (hk : c.x.items.length <= 1000000) (hB : B <= w.heap.size) :
  Calls Tryz.prog 90 #[.pointer (some ⟨g, 0, none⟩), .agg xs.toArray] w fun r w' => r = .returned (.tuple #[]) /\ ∃ c', c'.x = c.x.add x /\ StC B g rb w' v (C ++ [c']) /\ PBox w' g v a e /\ KeepR B rb w w' := by
 have h7 : ∀ d ∈ C, d.cs.length = 7 := fun d hd => (h.all d (by simp [hd])).len
 have hc := h.all c (by simp)
 obtain ⟨bb, n, ex, ls, vo, vt, vk, lv, L, q1, q2, q3, q4, q5, q6⟩ := hc; have hkL : L.length <= 1000000 := by rw [q1] at hk; simpa [Itm.items] using hk
 have hro := h.row; rw [show (C ++ [c]).length = C.length + 1 by simp] at hro
 obtain ⟨ob, oc, cur, rfl, -⟩ : ∃ ob oc, ∃ cur : Array Value, v = .slice (some ⟨ob, 0, none⟩) (C.length + 1) oc /\ True := by
  rcases hro.2 with ⟨-, q⟩ | ⟨g', cap', cur, q, -⟩
  ·omega
  ·exact ⟨g', cap', cur, q, trivial⟩
 obtain ⟨xn, xo, xt, va, vn, vc, la, ln, lc, ia, ik, ic, rfl⟩ := ItmIn.shape7 hx; have hA := h.apart.one c (by simp)
 have htop := (flat_top C c h7 6).trans (h.all c (by simp)).cell6
 refine (add_any g ob oc C.length L.length B a e ((C ++ [c]).flatMap (·.cs)) (L.flatMap (·.2)) c.iv x.block xn xo xt va vn vc la ln lc ia ik ic w hp hro htop q5 (fun q => (hA ob q).1 rfl) (fun q => h.apart.vg (by rw [q]; rfl)) (fun q => (hA g q).2.1 rfl) hn hkL hB).mono ?_
 rintro r w' ⟨rfl, g2, cap2, r1, r2, r3, r4, r5⟩; have hf : ∀ b, b < w.heap.size -> (Value.slice (some ⟨ob, 0, none⟩) (C.length + 1) oc).ownBlock ≠ some b -> c.iv.ownBlock ≠ some b -> w'.heap[b]? = w.heap[b]? := fun b hb h1 h2 => r5 b hb (fun q => h1 (by rw [q]; rfl)) h2
 refine ⟨rfl, _, rfl, StC.add h hx q5 r1 r2 r3 r4.size hf, ?_, ?_, fun b eb => ?_⟩
 ·exact (hf g h.gl h.apart.vg (fun q => (hA g q).2.1 rfl)).trans hp
 ·exact ⟨r4.os, r4.tape, r4.output, r4.size, fun k hk => hf k (by omega) (fun q => by have := (h.lt (.inl q)).1; omega) (fun q => by have := (h.lt (.inr ⟨c, by simp, q⟩)).1; omega)⟩
 ·exact hf b (h.rl b eb) (fun q => h.apart.vr b q eb) (fun q => (hA b q).2.2 eb)
def PushE (B g n g3 cap3 : Nat) (a e : Int) (os xs : List Value) (v : Value) (W W' : World) : Prop :=
 W'.ownsRow B 54 7 (.slice (some ⟨g3, 0, none⟩) (n + 1) cap3) (n + 1) (os ++ xs) /\ PBox W' g (.slice (some ⟨g3, 0, none⟩) (n + 1) cap3) a e /\ (v.ownBlock = some g3 \/ g3 = W.heap.size) /\ Below 0 W W' /\ ∀ b, b < W.heap.size -> v.ownBlock ≠ some b -> b ≠ g -> W'.heap[b]? = W.heap[b]?
section
variable {B g n g3 cap3 : Nat} {a e : Int} {os xs : List Value} {v : Value} {W w3 : World}
theorem push_end1 (hx : xs.length = 7) (hL : os.length = n * 7) (hne : ¬ g3 = g) (h1 : w3.ownsRow B 54 7 (.slice (some ⟨g3, 0, none⟩) (n + 1) cap3) (n + 1) (os ++ zeroIC)) (h2 : W.grownBy w3 v.ownBlock) (hat : v.ownBlock = some g3 \/ g3 = W.heap.size)
  (h3 : Cells w3 g #[v, .int .i64 a, .int .i64 e] 83) : PushE B g n g3 cap3 a e os xs v W ((w3.setCells g3 (n * 7) xs).setCell ⟨g, 0, none⟩ (.slice (some ⟨g3, 0, none⟩) (n + 1) cap3)) := by
 have a1 := own_cells xs (n * 7) h1; rw [<- hL, setL_end xs zeroIC os (by rw [hx]; rfl), hL] at a1
 have a2 := grown_cells g3 xs (n * 7) w3; have a3 := (h3.kept a2 (fun q => hne (Option.some.inj q).symm)).setI 0 (.slice (some ⟨g3, 0, none⟩) (n + 1) cap3); have a5 : (w3.setCells g3 (n * 7) xs).grownBy ((w3.setCells g3 (n * 7) xs).setCell ⟨g, 0, none⟩ (.slice (some ⟨g3, 0, none⟩) (n + 1) cap3)) (some g) := ⟨rfl, rfl, rfl, by simp [World.setCell], fun k _ hk => heap_setCell_other _ ⟨g, 0, none⟩ k _ (fun q => hk (by simp [q]))⟩
 refine ⟨a1.kept a5 (.inr (fun q => hne (by simpa [Value.ownBlock] using q))), a3, hat, (((Below.refl 0 W).grown h2 (Nat.zero_le _) (fun _ _ => Nat.zero_le _)).grown a2 (Nat.zero_le _) (fun _ _ => Nat.zero_le _)).grown a5 (Nat.zero_le _) (fun _ _ => Nat.zero_le _), fun b hb h4 h5 => ?_⟩
 have z2 := h2.size; have z3 := a2.size; rw [a5.block b (by omega) (fun q => h5 (Option.some.inj q)), a2.block b (by omega) (fun q => hat.elim (fun r => h4 (r.trans q.symm)) (fun r => by have := Option.some.inj q; omega)), h2.block b hb (fun q => h4 q.symm)]
theorem push_end2 (hx : xs.length = 7) (hL : os.length = n * 7) (hne : ¬ g3 = g) (h1 : w3.ownsRow B 54 7 (.slice (some ⟨g3, 0, none⟩) (n + 1) cap3) (n + 1) (os ++ zeroIC)) (h2 : W.grownBy w3 v.ownBlock) (hat : v.ownBlock = some g3 \/ g3 = W.heap.size)
  (h3 : Cells w3 g #[v, .int .i64 a, .int .i64 e] 83) : PushE B g n g3 cap3 a e os xs v W ((w3.setCell ⟨g, 0, none⟩ (.slice (some ⟨g3, 0, none⟩) (n + 1) cap3)).setCells g3 (n * 7) xs) := by
 have a5 : w3.grownBy (w3.setCell ⟨g, 0, none⟩ (.slice (some ⟨g3, 0, none⟩) (n + 1) cap3)) (some g) := ⟨rfl, rfl, rfl, by simp [World.setCell], fun k _ hk => heap_setCell_other _ ⟨g, 0, none⟩ k _ (fun q => hk (by simp [q]))⟩
 have a1 := own_cells xs (n * 7) (h1.kept a5 (.inr (fun q => hne (by simpa [Value.ownBlock] using q))))
 rw [<- hL, setL_end xs zeroIC os (by rw [hx]; rfl), hL] at a1
 have a2 := grown_cells g3 xs (n * 7) (w3.setCell ⟨g, 0, none⟩ (.slice (some ⟨g3, 0, none⟩) (n + 1) cap3)); have a3 := (h3.setI 0 (.slice (some ⟨g3, 0, none⟩) (n + 1) cap3)).kept a2 (fun q => hne (Option.some.inj q).symm); refine ⟨a1, a3, hat, (((Below.refl 0 W).grown h2 (Nat.zero_le _) (fun _ _ => Nat.zero_le _)).grown a5 (Nat.zero_le _) (fun _ _ => Nat.zero_le _)).grown a2 (Nat.zero_le _) (fun _ _ => Nat.zero_le _), fun b hb h4 h5 => ?_⟩; have z2 := h2.size; have z3 := a5.size; rw [a2.block b (by omega) (fun q => hat.elim (fun r => h4 (r.trans q.symm)) (fun r => by have := Option.some.inj q; omega)), a5.block b (by omega) (fun q => h5 (Option.some.inj q)), h2.block b hb (fun q => h4 q.symm)]
theorem push_c1 {a0 a1 a2 a3 a4 a5 a6 : Value} (hL : os.length = n * 7) (hne : ¬ g3 = g) (h1 : w3.ownsRow B 54 7 (.slice (some ⟨g3, 0, none⟩) (n + 1) cap3) (n + 1) (os ++ zeroIC)) (h2 : W.grownBy w3 v.ownBlock) (hat : v.ownBlock = some g3 \/ g3 = W.heap.size)
  (h3 : Cells w3 g #[v, .int .i64 a, .int .i64 e] 83) : PushE B g n g3 cap3 a e os [a0, a1, a2, a3, a4, a5, a6] v W ((((((((w3.setCell ⟨g3, n * 7, none⟩ a0).setCell ⟨g3, n * 7 + 1, none⟩ a1).setCell ⟨g3, n * 7 + 2, none⟩ a2).setCell ⟨g3, n * 7 + 3, none⟩ a3).setCell ⟨g3, n * 7 + 4, none⟩ a4).setCell ⟨g3, n * 7 + 5, none⟩ a5).setCell ⟨g3, n * 7 + 6, none⟩ a6).setCell ⟨g, 0, none⟩ (.slice (some ⟨g3, 0, none⟩) (n + 1) cap3)) :=
 push_end1 (xs := [a0, a1, a2, a3, a4, a5, a6]) rfl hL hne h1 h2 hat h3
theorem push_c2 {a0 a1 a2 a3 a4 a5 a6 : Value} (hL : os.length = n * 7) (hne : ¬ g3 = g) (h1 : w3.ownsRow B 54 7 (.slice (some ⟨g3, 0, none⟩) (n + 1) cap3) (n + 1) (os ++ zeroIC)) (h2 : W.grownBy w3 v.ownBlock) (hat : v.ownBlock = some g3 \/ g3 = W.heap.size)
  (h3 : Cells w3 g #[v, .int .i64 a, .int .i64 e] 83) : PushE B g n g3 cap3 a e os [a0, a1, a2, a3, a4, a5, a6] v W ((((((((w3.setCell ⟨g, 0, none⟩ (.slice (some ⟨g3, 0, none⟩) (n + 1) cap3)).setCell ⟨g3, n * 7, none⟩ a0).setCell ⟨g3, n * 7 + 1, none⟩ a1).setCell ⟨g3, n * 7 + 2, none⟩ a2).setCell ⟨g3, n * 7 + 3, none⟩ a3).setCell ⟨g3, n * 7 + 4, none⟩ a4).setCell ⟨g3, n * 7 + 5, none⟩ a5).setCell ⟨g3, n * 7 + 6, none⟩ a6) :=
 push_end2 (xs := [a0, a1, a2, a3, a4, a5, a6]) rfl hL hne h1 h2 hat h3
end
theorem push_at {w : World} {B n g : Nat} {v : Value} {os : List Value} {a e : Int} (hb : B <= w.heap.size) (h1 : w.ownsRow B 54 7 v n os) (h2 : PBox w g v a e) :
  ((w.alloc (.cells zeroIC.toArray 54)).drew.ownsRow B 54 7 v n os) /\ (Cells (w.alloc (.cells zeroIC.toArray 54)).drew g #[v, .int .i64 a, .int .i64 e] 83) /\
  (∀ (j : Nat) (u : Value), zeroIC[j]? = some u -> (w.alloc (.cells zeroIC.toArray 54)).drew.cell? ⟨w.heap.size, j, none⟩ = some u) /\ B <= (w.alloc (.cells zeroIC.toArray 54)).drew.heap.size /\ (w.alloc (.cells zeroIC.toArray 54)).drew.heap.size = w.heap.size + 1 /\ Below w.heap.size w (w.alloc (.cells zeroIC.toArray 54)).drew :=
 have hA : Below w.heap.size w (w.alloc (.cells zeroIC.toArray 54)).drew := ((Below.refl _ w).alloc (Nat.le_refl _) _).drew
 ⟨show (w.alloc (.cells zeroIC.toArray 54)).ownsRow _ _ _ _ _ _ from h1.alloc _, h2.below hA h2.lt, fun j u hu => zero_at w rfl j u hu, Nat.le_trans hb hA.size, World.size_alloc w _, hA⟩
theorem push_far {v : Value} {g g3 H n : Nat} (h : v.ownBlock = some g3 \/ g3 = H) (hH : H = n + 1) (hne : v.ownBlock ≠ some g) (hl : g < n) : ¬ g3 = g := fun e => h.elim (fun q => hne (by rw [q, e])) (fun q => by omega)
end Go.Proofs.YtbcdaaobbebooaaGreatDoor
