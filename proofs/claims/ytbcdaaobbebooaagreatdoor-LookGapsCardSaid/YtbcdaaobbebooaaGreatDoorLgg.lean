/- Texts of this claim, one behind the other: BoN, BoVp, LkG, LkH, RuB, TdC, RuC, RuD, TdD, TdE, RuE, TdG, TdH. -/
import Derived.Test.YtbcdaaobbebooaaGreatDoorLgb
import Derived.Test.YtbcdaaobbebooaaGreatDoorLgd
import Derived.Test.YtbcdaaobbebooaaGreatDoorLge
import Derived.Test.YtbcdaaobbebooaaGreatDoorLgf
set_option linter.unusedSimpArgs false
set_option linter.unusedVariables false
namespace Go.Proofs.YtbcdaaobbebooaaGreatDoor
set_option maxRecDepth 100000
set_option maxHeartbeats 20000000
open Go.RowKit Go.Tab
theorem readI_any {toks : List Tok} {size : Int} {B g k : Nat} {C : List Opn} {row : List Tok} {rv v : Value} {w wr : World} (h : InP toks size B g k C row rv v w wr) (stop : Int) (last : Bool) (hT : LexT wr) (hk : k <= 800000) (hB : B <= g) (hsh : ∀ t ∈ toks, t.text.size <= 1048576) (hq : ∀ t ∈ toks, t.kind = 3 -> quoX t.text ≠ none) :
  Calls Tryz.prog 49 #[.pointer (some ⟨g, 0, none⟩), lineV rv stop last] wr (ReadP B g rv.ownBlock (readK (C.map (·.x)) row stop last) wr) := by
 rcases List.eq_nil_or_concat C with rfl | ⟨C0, c, hC⟩
 ·exact absurd rfl h.small.1
 ·rw [List.concat_eq_append] at hC
  subst hC; have hl := h.small.2.1; simp only [List.length_map, List.length_append, List.length_singleton] at hl
  exact read_any B g rv.ownBlock v C0 c row rv stop last wr h.st h.box h.own.toks (fun b e => (World.ownsRow.lt h.own b e).2) hT (by have := h.len; omega) (fun t ht => hsh t (h.mem t ht)) (fun t ht => hq t (h.mem t ht)) (by omega)
   (fun d hd => by have := h.small.2.2 d.x (List.mem_map.2 ⟨d, hd, rfl⟩); omega) h.big hB
theorem wpList_append_tokL {w : World} {ops : Array Oper} {rest : List Oper} {o : Oper} {a : Act} {Q : Exit -> Act -> World -> Prop} (hgd : o.guard = none) (s x : Operand)
  (ho : o.op = .call { callee := .builtin .append, args := #[s, x], argTypes := #[22, 22] })
  (base : Nat) (l : List Tok) (t : Tok) (hown : OwnT base w (a.eval s) l) (g : Nat) (hx : a.eval x = .slice (some ⟨g, 0, none⟩) 1 1)
  (hc : Cells w g #[.int .i64 t.kind, .string t.text, .int .i64 t.pos] 63)
  (hm : l.length <= 1000000) (hbase : base <= w.heap.size) (H : Nat) (hH : w.heap.size = H)
  (hK : ∀ gb cap w', OwnT base w' (.slice (some ⟨gb, 0, none⟩) (l.length + 1) cap) (l ++ [t]) -> w.grownBy w' (a.eval s).ownBlock -> ((a.eval s).ownBlock = some gb \/ gb = H) -> gb < w'.heap.size ->
   wpList Tryz.prog ops Q rest (a.put o.dst (.slice (some ⟨gb, 0, none⟩) (l.length + 1) cap)) w') : wpList Tryz.prog ops Q (o :: rest) a w := by
 obtain ⟨i, hi1, hi2, hi3, hi4⟩ := info_parts Tryz.infoTok; refine wpList_append_lies w hgd s x 22 ho base 63 i _ 3 32 Tryz.underlying22 hi1 hi2 hi3 hi4 rfl (by decide) (a.eval s) l.length (l.flatMap tokC) rfl hown ⟨g, 0, none⟩ 1 1 (tokC t) hx rfl ?_ (tokC_one t) (by omega) (by unfold maxLen; omega) (by omega) hbase H hH ?_
 ·intro j u hu
  rw [Addr.add_lit, Nat.zero_add]; exact hc.cell _ _ (by simpa [tokC] using hu)
 ·intro gb cap w' hown' hg hat hlt
  exact hK gb cap w' (by unfold OwnT; simpa using hown') hg hat hlt
theorem bodyParse_any (s : ByteArray) (w : World) (hT : LexT w) (hs : s.size <= 800000) : Calls Tryz.prog 18 #[.string s] w (BodyP (linesP s.data.toList) w) := by
 have hL := lexParse_any s w hT (by omega); obtain ⟨hlen, htxt⟩ := lexP_len s.data.toList
 have hquo : ∀ t ∈ (lexP s.data.toList).1, t.kind = 3 -> quoX t.text ≠ none := by
  have := lexL_quo s.data.toList.length s.data.toList 0 (Nat.le_refl _); unfold lexP; split
  ·exact this
  ·intro t ht
   cases ht
 have hsz : s.data.toList.length = s.size := size_list2 s; rw [hsz] at hlen htxt; have hR : linesP s.data.toList = (if (lexP s.data.toList).2.2 ≠ 0 then ([], (lexP s.data.toList).2) else linesF s.size (lexP s.data.toList).1 [zeroI] []) := by unfold linesP; rw [hsz]
 rw [hR]; generalize lexP s.data.toList = X at *; obtain ⟨toks, at_, er⟩ := X; simp only at hL hlen htxt hquo ⊢; clear hR hsz; obtain ⟨R, hRd⟩ : ∃ R, R = (if er ≠ 0 then (([] : List Itm), at_, er) else linesF s.size toks [zeroI] []) := ⟨_, rfl⟩; rw [<- hRd]; have HRD := Lib.hid hRd; clear hRd; have HT := Lib.hid (And.intro htxt hquo); clear htxt hquo; go_enter Tryz.func18, Tryz.ntmps18; go_wp2_with fail; refine hL.mono ?_; clear hL; rintro _ w1 ⟨tv, rfl, hown, hb1⟩
 by_cases he : er = 0
 ·subst he
  have hT1 := hT.below hb1; have hpos := hT1.utf.pos; have htk := hown.toks; obtain ⟨ta, tc, rfl⟩ := hown.len; have HB1 := Lib.hid (And.intro hb1 hT1); have HOW := Lib.hid htk; have HRL : Hid (R = linesF s.size toks [zeroI] []) := Lib.hid (by rw [HRD.out, if_neg (fun q => q rfl)]); clear hown htk hb1 hT1 hpos hT; obtain ⟨G, hG⟩ : ∃ G, G = w1.heap.size + 1 := ⟨_, rfl⟩; have HG := Lib.hid hG; go_wp2_with (with_reducible first | refine stop_make ?_)
  refine Stop.out ?_; refine wpList_make_z rfl _ _ _ rfl 54 128 7 _ Tryz.underlying42 Tryz.infoItm _ _ 1 rfl rfl (by omega) (by unfold maxLen; omega) ?_; rw [show madeCells (Value.agg #[.bool false, .string ⟨#[]⟩, .string ⟨#[]⟩, .string ⟨#[]⟩, .slice none 0 0, .slice none 0 0, .slice none 0 0]).cells (1 * 7) = zeroIC.toArray by kernel_rfl]; go_wp2_with fail; rw [<- hG]; have hstart := InP.start toks s.size w1; rw [<- hG] at hstart; clear hG; go_loopw [7, 9, 25] (fun rv _ i wr => ∃ (k : Nat) (C : List Opn) (row : List Tok) (v : Value), k <= toks.length /\ i = .int .i64 (k : Int) /\ InP toks s.size w1.heap.size G k C row rv v w1 wr) (fun _ _ i _ => toks.length - (intOf i).toNat)
  case atStart => exact ⟨0, _, [], _, Nat.zero_le _, rfl, hstart⟩
  case round =>
   clear hstart; obtain ⟨k, C, row, v, hk, rfl, hI⟩ := hrel; have hTr := LexT.below HB1.out.2 hI.kept; have hGl : G < wr.heap.size := hI.st.gl; have hw1 : w1.heap.size <= wr.heap.size := hI.big; obtain ⟨ra, rc, rfl⟩ := hI.own.len
   by_cases hkl : k < toks.length
   ·obtain ⟨bb, off, rfl, hlt, q0, q1, q2⟩ := (HOW.out.below hI.kept (Nat.le_refl _)).get hkl
    have hA : Below wr.heap.size wr (wr.alloc (.cells #[.int .i64 toks[k].kind, .string toks[k].text, .int .i64 toks[k].pos] 63)) := (Below.refl _ wr).alloc (Nat.le_refl _) _; have hI1 := hI.below hA; have hNew := Cells.new wr #[.int .i64 toks[k].kind, .string toks[k].text, .int .i64 toks[k].pos] 63; have HS := Lib.hid (fun h6 => hI1.skip hkl h6); have HR := Lib.hid (And.intro (fun stop last => readI_any hI1 stop last (hTr.below hA) (by omega) (by have := HG.out; omega) (fun t ht => Nat.le_trans (HT.out.1 t ht) (by omega)) HT.out.2) (And.intro hI hI1)); have hbx := hI.box; clear hI hI1 hTr hA; have hKind : ∃ kd tx ps, toks[k].kind = kd /\ toks[k].text = tx /\ toks[k].pos = ps := ⟨_, _, _, rfl, rfl, rfl⟩; obtain ⟨kd, tx, ps, hkd, htx, hps⟩ := hKind; have HK := Lib.hid (And.intro hkd (And.intro htx hps)); rw [hkd, htx, hps] at hNew; rw [hkd] at q0; rw [htx] at q1; rw [hps] at q2; have HQ : Hid (wr.alloc (.cells #[.int .i64 toks[k].kind, .string toks[k].text, .int .i64 toks[k].pos] 63) = wr.alloc (.cells #[.int .i64 kd, .string tx, .int .i64 ps] 63)) := Lib.hid (by rw [hkd, htx, hps]); clear hkd htx hps
    by_cases h6 : kd = 6 \/ kd = 7
    ·have hS := HS.out (by rw [HK.out.1]; exact h6)
     rw [HQ.out] at hS; have HS6 := Lib.hid hS; have hbxc0 := hbx.cell 0 _ rfl; have hbxf0 := hbx.frozen 0; have hbxc1 := hbx.cell 1 _ rfl; have hbxf1 := hbx.frozen 1; have hbxc2 := hbx.cell 2 _ rfl; have hbxf2 := hbx.frozen 2; clear hS HS HR hbx hNew; rcases h6 with rfl | rfl
     ·have e5 : ((6 : Int) != 5) = true := by decide
      go_wp2_with fail; go_roundw
      case rel => exact ⟨k + 1, C, row, v, hkl, by go_num, HS6.out⟩
      case measure => simp [intOf]; omega
     ·go_wp2_with fail
      go_roundw
      case rel => exact ⟨k + 1, C, row, v, hkl, by go_num, HS6.out⟩
      case measure => simp [intOf]; omega
    ·by_cases h5 : kd = 5
     ·subst h5
      have hrd := HR.out.1 ps false; obtain ⟨RR, hRR⟩ : ∃ RR, RR = readK (C.map (·.x)) row ps false := ⟨_, rfl⟩; rw [<- hRR] at hrd; rw [HQ.out] at hrd; have HRR := Lib.hid hRR; have hbxc0 := hbx.cell 0 _ rfl; have hbxf0 := hbx.frozen 0; have hbxc1 := hbx.cell 1 _ rfl; have hbxf1 := hbx.frozen 1; have hbxc2 := hbx.cell 2 _ rfl; have hbxf2 := hbx.frozen 2; clear hRR hbx h6; have e6 : ((5 : Int) == 6) = false := by decide
      have e7 : ((5 : Int) == 7) = false := by decide
      go_wp2_with fail; refine hrd.mono ?_; clear hrd hNew hbxc0 hbxc1 hbxc2 hbxf0 hbxf1 hbxf2; rintro _ w3 ⟨rfl, v3, ⟨C3, hC3, hS3⟩, hP3, hK3⟩; have hG3 : G < w3.heap.size := hS3.gl; have hcap := HR.out.2.1.own.capB; obtain ⟨-, hcap1, hcap2⟩ := hcap; unfold maxLen at hcap2
      by_cases he5 : RR.2.2 = 0
      ·have hz : RR.2.1 = 0 := by rw [HRR.out] at he5 ⊢; exact readK_zero he5
       rw [he5, hz] at hP3
       have hL : Hid (InP toks s.size w1.heap.size G (k + 1) C3 [] (.slice ra 0 rc) v3 w1 w3) := Lib.hid (by
        have hI1 := HR.out.2.2; have h9 : RR = readK (C.map (·.x)) row toks[k].pos false := by rw [HK.out.2.2]; exact HRR.out
        rw [h9] at he5 hC3; refine hI1.line hkl HK.out.1 he5 hC3 hS3 (e1 := 0) ?_ rfl (by rw [HQ.out]; exact hK3)
        rw [he5]; exact hP3)
       have hP3c0 := hP3.cell 0 _ rfl; have hP3f0 := hP3.frozen 0; have hP3c1 := hP3.cell 1 _ rfl; have hP3f1 := hP3.frozen 1; have hP3c2 := hP3.cell 2 _ rfl; have hP3f2 := hP3.frozen 2; clear hP3 hC3 hS3 hK3 HR HS he5 hz HRR HQ; go_wp2_with (with_reducible first | refine stop_slice ?_)
       refine Stop.out ?_; refine wpList_slice_none rfl _ _ _ 3 rfl Tryz.underlying22 (by kernel_rfl) ra row.length rc rfl _ rfl ?_; go_wp2_with fail; go_roundw
       case rel => exact ⟨k + 1, C3, [], v3, hkl, by go_num, hL.out⟩
       case measure => simp [intOf]; omega
      ·have hbad : Hid (R = ([], RR.2)) := Lib.hid (by
        have h9 : RR = readK (C.map (·.x)) row toks[k].pos false := by rw [HK.out.2.2]; exact HRR.out
        rw [HRL.out, h9]
        exact HR.out.2.1.rest.bad hkl HK.out.1 (by rw [<- h9]; exact he5))
       have hBw : Hid (Below w.heap.size w w3) := Lib.hid (HB1.out.1.trans ((HR.out.2.1.kept.trans ((Below.refl _ wr).alloc HR.out.2.1.big (.cells #[.int .i64 5, .string tx, .int .i64 ps] 63) |>.trans hK3.1)).mono HB1.out.1.size)); have ebad : (RR.2.2 != 0) = true := by simpa using he5
       have hR2 : Hid (RR.2 = (RR.2.1, RR.2.2)) := Lib.hid rfl; clear hC3 hS3 hK3 HR HS HRR HQ he5; generalize RR.2.1 = pa at *; generalize RR.2.2 = pe at *; have hP3c0 := hP3.cell 0 _ rfl; have hP3f0 := hP3.frozen 0; have hP3c1 := hP3.cell 1 _ rfl; have hP3f1 := hP3.frozen 1; have hP3c2 := hP3.cell 2 _ rfl; have hP3f2 := hP3.frozen 2; clear hP3; go_wp2_with (with_reducible first | refine stop_slice ?_)
       refine Stop.out ?_; refine wpList_slice_none rfl _ _ _ 3 rfl Tryz.underlying22 (by kernel_rfl) ra row.length rc rfl _ rfl ?_; go_wp2_with fail; go_quiet (fail)
       go_wp2_with fail; refine bodyPost_ret (v := .tuple #[.slice none 0 0, .int .i64 pa, .int .i64 pe]) (by simp [results, Tryz.results18, go_sem]) rfl ?_; rw [hbad.out, hR2.out]; exact ⟨⟨_, rfl, ItmsAt.nil⟩, below_drewN hBw.out _⟩
     ·have h56 : toks[k].kind ≠ 5 /\ ¬ (toks[k].kind = 6 \/ toks[k].kind = 7) := by rw [HK.out.1]; exact ⟨h5, h6⟩
      have e5 : (kd == 5) = false := by simpa using h5
      have e6 : (kd == 6) = false := by simp at h6 ⊢; omega
      have e7 : (kd == 7) = false := by simp at h6 ⊢; omega
      have H56 := Lib.hid h56; have hrow : OwnT w1.heap.size (wr.alloc (.cells #[.int .i64 kd, .string tx, .int .i64 ps] 63)) (.slice ra row.length rc) row := by rw [<- HQ.out]; exact HR.out.2.2.own
      have hrl := HR.out.2.1.len; have hbxc0 := hbx.cell 0 _ rfl; have hbxf0 := hbx.frozen 0; have hbxc1 := hbx.cell 1 _ rfl; have hbxf1 := hbx.frozen 1; have hbxc2 := hbx.cell 2 _ rfl; have hbxf2 := hbx.frozen 2; clear hbx h56 h5 h6; go_wp2_with (with_reducible first | refine stop_append ?_)
      refine Stop.out ?_
      refine wpList_append_tokL rfl _ _ rfl w1.heap.size row ⟨kd, tx, ps⟩ (by exact hrow.alloc _) (wr.heap.size + 1) (by first | rfl | simp) (by
       have := Cells.new (wr.alloc (.cells #[.int .i64 kd, .string tx, .int .i64 ps] 63)) #[.int .i64 kd, .string tx, .int .i64 ps] 63; rw [World.size_alloc] at this
       exact this) (by omega) (by simp; omega) (wr.heap.size + 2) (by simp) ?_
      intro g3 cap3 w3 hown3 hg3 hat3 hlt3
      have hI3 : Hid (InP toks s.size w1.heap.size G (k + 1) C (row ++ [toks[k]]) (.slice (some ⟨g3, 0, none⟩) (row.length + 1) cap3) v w1 w3) := Lib.hid (by
       have hI2 := HR.out.2.2; rw [HQ.out] at hI2; have hI2 := hI2.below ((Below.refl _ _).alloc (Nat.le_refl _) (.cells #[.int .i64 kd, .string tx, .int .i64 ps] 63))
       have htk : toks[k] = ⟨kd, tx, ps⟩ := by
        obtain ⟨z1, z2, z3⟩ := HK.out; rw [<- z1, <- z2, <- z3]
       have hown4 : OwnT w1.heap.size w3 (.slice (some ⟨g3, 0, none⟩) (row.length + 1) cap3) (row ++ [toks[k]]) := by rw [htk]; exact hown3
       exact hI2.tok hkl H56.out.1 H56.out.2 hown4 hg3 (hat3.imp id (fun q => by simpa using q)) hlt3)
      have hbx := hI3.out.box; have hG3 : G < w3.heap.size := hI3.out.st.gl; clear hown3 hg3 hat3 hlt3 hrow hNew HR HQ HS q0 q1 q2 hbxc0 hbxc1 hbxc2 hbxf0 hbxf1 hbxf2; have hbxc0 := hbx.cell 0 _ rfl; have hbxf0 := hbx.frozen 0; have hbxc1 := hbx.cell 1 _ rfl; have hbxf1 := hbx.frozen 1; have hbxc2 := hbx.cell 2 _ rfl; have hbxf2 := hbx.frozen 2; clear hbx; go_wp2_with fail; go_roundw
      case rel => exact ⟨k + 1, C, _, v, hkl, by go_num, by simpa using hI3.out⟩
      case measure => simp [intOf]; omega
   ·obtain rfl : k = toks.length := by omega
    have hrd := readI_any hI s.size true hTr (by omega) (by have := HG.out; omega) (fun t ht => Nat.le_trans (HT.out.1 t ht) (by omega)) HT.out.2; have hlast := hI.rest.last (Nat.le_refl _); have hne := readK_ne hI.small.1 row s.size true; have HI := Lib.hid hI; rw [<- HRL.out] at hlast; have hbx := hI.box; generalize readK (C.map (·.x)) row s.size true = RR at *; have HRR := Lib.hid (And.intro hlast hne); clear hI hTr hlast hne; have hbxc0 := hbx.cell 0 _ rfl; have hbxf0 := hbx.frozen 0; have hbxc1 := hbx.cell 1 _ rfl; have hbxf1 := hbx.frozen 1; have hbxc2 := hbx.cell 2 _ rfl; have hbxf2 := hbx.frozen 2; clear hbx; go_wp2_with fail; refine hrd.mono ?_; clear hrd hbxc0 hbxc1 hbxc2 hbxf0 hbxf1 hbxf2; rintro _ w3 ⟨rfl, v3, ⟨C3, hC3, hS3⟩, hP3, hK3⟩; have hG3 : G < w3.heap.size := hS3.gl; have hBw : Hid (Below w.heap.size w w3) := Lib.hid (HB1.out.1.trans ((HI.out.kept.trans hK3.1).mono HB1.out.1.size)); clear HI hK3
    by_cases he5 : RR.2.2 = 0
    ·have hz3 : C3 ≠ [] := fun e => HRR.out.2 (by rw [hC3, e]; rfl)
     have hrr := HRR.out.1; rw [if_neg (fun q => q he5), hC3] at hrr; rw [he5] at hP3; generalize RR.2.1 = pa at *; clear HRR he5
     by_cases hn : 1 < C3.length
     ·rw [if_pos (by simpa using hn)] at hrr
      have hR9 := Lib.hid hrr; obtain ⟨ob, oc, hv3, -⟩ := World.ownsRow.form hS3.row (by omega); subst hv3; have hF := bfail_any G _ _ _ s.size 2 w3 hP3; have hm : (1 : Int) < (C3.length : Int) := by omega
      generalize C3.length = n3 at *; have hP3c0 := hP3.cell 0 _ rfl; have hP3f0 := hP3.frozen 0; have hP3c1 := hP3.cell 1 _ rfl; have hP3f1 := hP3.frozen 1; have hP3c2 := hP3.cell 2 _ rfl; have hP3f2 := hP3.frozen 2; clear hP3 hS3 hC3 hz3 hn hrr; go_wp2_with fail; refine hF.mono ?_; clear hF hP3c0 hP3c1 hP3c2 hP3f0 hP3f1 hP3f2; rintro _ w4 ⟨rfl, hP4, hw4⟩
      have hBw4 : Hid (Below w.heap.size w w4) := Lib.hid (by
       rw [hw4]; have h1 := HG.out; have h2 := HB1.out.1.size
       exact (hBw.out.setCell (p := ⟨G, 1, none⟩) (by show w.heap.size <= G; omega) _).setCell (p := ⟨G, 2, none⟩) (by show w.heap.size <= G; omega) _)
      have hG4 : G < w4.heap.size := hP4.lt; have hP4c0 := hP4.cell 0 _ rfl; have hP4f0 := hP4.frozen 0; have hP4c1 := hP4.cell 1 _ rfl; have hP4f1 := hP4.frozen 1; have hP4c2 := hP4.cell 2 _ rfl; have hP4f2 := hP4.frozen 2; clear hP4 hw4; have e2 : ((2 : Int) != 0) = true := by decide
      go_wp2_with fail; go_quiet (fail)
      go_wp2_with fail; refine bodyPost_ret (v := .tuple #[.slice none 0 0, .int .i64 s.size, .int .i64 2]) (by simp [results, Tryz.results18, go_sem]) rfl ?_; rw [hR9.out]; exact ⟨⟨_, rfl, ItmsAt.nil⟩, below_drewN hBw4.out _⟩
     ·rw [if_neg (by simpa using hn)] at hrr
      obtain ⟨ob, oc, iv, rfl, hcell, hits⟩ := hS3.end hn hz3; have hR9 := Lib.hid (And.intro hrr hits); obtain ⟨ia, ic, rfl, -⟩ := hits.len; generalize ((C3.map (·.x)).head?.getD zeroI).items = its at *; have hP3c0 := hP3.cell 0 _ rfl; have hP3f0 := hP3.frozen 0; have hP3c1 := hP3.cell 1 _ rfl; have hP3f1 := hP3.frozen 1; have hP3c2 := hP3.cell 2 _ rfl; have hP3f2 := hP3.frozen 2; clear hP3 hS3 hC3 hz3 hn hrr hits; go_wp2_with fail; refine bodyPost_ret (v := .tuple #[.slice ia its.length ic, .int .i64 (-1), .int .i64 0]) (by simp [results, Tryz.results18, go_sem]) rfl ?_; rw [hR9.out.1]; exact ⟨⟨_, rfl, hR9.out.2⟩, hBw.out⟩
    ·have hbad : Hid (R = ([], RR.2.1, RR.2.2)) := Lib.hid (by rw [HRR.out.1, if_pos he5])
     have ebad : (RR.2.2 != 0) = true := by simpa using he5
     have ebad2 : (RR.2.2 == 0) = false := by simpa using he5
     clear hC3 hS3 HRR he5; generalize RR.2.1 = pa at *; generalize RR.2.2 = pe at *; have hP3c0 := hP3.cell 0 _ rfl; have hP3f0 := hP3.frozen 0; have hP3c1 := hP3.cell 1 _ rfl; have hP3f1 := hP3.frozen 1; have hP3c2 := hP3.cell 2 _ rfl; have hP3f2 := hP3.frozen 2; clear hP3; go_wp2_with fail; go_quiet (fail)
     go_wp2_with fail; refine bodyPost_ret (v := .tuple #[.slice none 0 0, .int .i64 pa, .int .i64 pe]) (by simp [results, Tryz.results18, go_sem]) rfl ?_; rw [hbad.out]; exact ⟨⟨_, rfl, ItmsAt.nil⟩, below_drewN hBw.out _⟩
 ·have e0 : (er != 0) = true := by simpa using he
  go_wp2_with fail; refine bodyPost_end (v := .tuple #[.slice none 0 0, .int .i64 at_, .int .i64 er]) (by simp [results, Tryz.results18, go_sem]) rfl ?_; rw [HRD.out, if_pos he]; exact ⟨⟨_, rfl, ItmsAt.nil⟩, hb1⟩
end Go.Proofs.YtbcdaaobbebooaaGreatDoor
namespace Go.Proofs.YtbcdaaobbebooaaGreatDoor
set_option maxRecDepth 100000
set_option maxHeartbeats 20000000
theorem lexL_pos : ∀ (k : Nat) (l : Bs) (p : Nat), l.length <= k -> (∀ t ∈ (lexL l p).1, 0 <= t.pos /\ t.pos <= (p + l.length : Nat)) /\ -1 <= (lexL l p).2.1 /\ (lexL l p).2.1 <= (p + l.length : Nat)
 | 0, l, p, h => by
  obtain rfl := List.eq_nil_of_length_eq_zero (Nat.le_zero.1 h); rw [lexL_nil]; exact ⟨fun t ht => (by cases ht), by simp, by simp only; omega⟩
 | k + 1, [], p, _ => by
  rw [lexL_nil]; exact ⟨fun t ht => (by cases ht), by simp, by simp only; omega⟩
 | k + 1, c :: r, p, h => by
  simp only [List.length_cons] at h ⊢
  by_cases hb : blankB c = true
  ·rw [lexL_blank hb]
   obtain ⟨h1, h2, h3⟩ := lexL_pos k r (p + 1) (by omega); exact ⟨fun t ht => by have := h1 t ht; omega, h2, by omega⟩
  ·have hb : blankB c = false := by simpa using hb
   cases ho : one1 (c :: r) with
   | bad off e =>
    rw [lexL_bad hb ho]; have := one1_off ho; simp only [List.length_cons] at this; exact ⟨fun t ht => (by cases ht), by simp only; omega, by simp only; omega⟩
   | tok kd sz =>
    have hs := one1_size ho; rw [lexL_tok hb ho]; simp only [List.length_cons] at hs; obtain ⟨h1, h2, h3⟩ := lexL_pos k ((c :: r).drop sz) (p + sz) (by rw [List.length_drop, List.length_cons]; omega); rw [List.length_drop, List.length_cons] at h1 h3; refine ⟨fun t ht => ?_, h2, by simp only at h3 ⊢; omega⟩; rcases List.mem_cons.1 ht with rfl | ht
    ·simp only; omega
    ·have := h1 t ht; omega
end Go.Proofs.YtbcdaaobbebooaaGreatDoor
namespace Go.Proofs.YtbcdaaobbebooaaGreatDoor
set_option maxRecDepth 100000
set_option maxHeartbeats 20000000
open Go.RowKit Go.Tab
def RowsD (B : Nat) (w : World) (v : Value) (L : List RowD) : Prop :=
 ∃ D : List (SlT × RowD), D.map (·.2) = L /\ w.ownsRow B 110 4 v D.length (D.flatMap rowC) /\ ∀ d ∈ D, OwnT B w (slT d.1) d.2.toks
theorem own_base {B B2 n sz : Nat} {E : TypeId} {w : World} {v : Value} {xs : List Value} (h : w.ownsRow B E sz v n xs) (hb : B2 <= B) : w.ownsRow B2 E sz v n xs := by
 obtain ⟨h1, h2⟩ := h; refine ⟨h1, ?_⟩; rcases h2 with h2 | ⟨g, cap, cur, hv, hg, r⟩
 ·exact .inl h2
 ·exact .inr ⟨g, cap, cur, hv, by omega, r⟩
theorem RowsD.nil (B : Nat) (w : World) : RowsD B w (.slice none 0 0) [] := ⟨[], rfl, World.ownsRow_nil _ _ _ _, fun d hd => by cases hd⟩
theorem RowsD.base {B B2 : Nat} {w : World} {v : Value} {L : List RowD} (h : RowsD B w v L) (hb : B2 <= B) : RowsD B2 w v L := by
 obtain ⟨D, h1, h2, h3⟩ := h; exact ⟨D, h1, own_base h2 hb, fun d hd => (h3 d hd).base_le hb⟩
theorem RwS.rows {B gr go gl : Nat} {w : World} {lv : Value} {D : List (SlT × RowD)} {cur : SlT} {toks : List Tok} {fr hi dp o : Int} (h : RwS B gr go gl w lv D cur toks fr hi dp o) : RowsD B w lv (D.map (·.2)) := ⟨D, rfl, h.own, fun d hd => (h.fin d hd).1⟩
theorem RwS.start (w1 : World) : RwS w1.heap.size (w1.heap.size + 1) (w1.heap.size + 2) w1.heap.size
  (((w1.alloc (.cells #[.slice none 0 0] 95)).alloc (.cells #[.slice none 0 0, .int .i64 0, .int .i64 0, .int .i64 0] 110)).alloc (.cells #[.int .i64 0] 3)) (.slice none 0 0) [] (none, 0, 0) [] 0 0 0 0 := by
 have c1 := ((Cells.new w1 #[.slice none 0 0] 95).alloc (.cells #[.slice none 0 0, .int .i64 0, .int .i64 0, .int .i64 0] 110)).alloc (.cells #[.int .i64 0] 3); have c2 := (Cells.new (w1.alloc (.cells #[.slice none 0 0] 95)) #[.slice none 0 0, .int .i64 0, .int .i64 0, .int .i64 0] 110).alloc (.cells #[.int .i64 0] 3); have c3 := Cells.new ((w1.alloc (.cells #[.slice none 0 0] 95)).alloc (.cells #[.slice none 0 0, .int .i64 0, .int .i64 0, .int .i64 0] 110)) #[.int .i64 0] 3; simp only [World.size_alloc] at c2 c3; exact ⟨c2, c3, c1, World.ownsRow_nil _ _ _ _, (by simp [Value.ownBlock]), OwnT.nil, (fun d hd => by cases hd), by omega⟩
theorem lexP_pos (l : Bs) : ∀ t ∈ (lexP l).1, 0 <= t.pos /\ t.pos <= (l.length : Nat) := by
 have := (lexL_pos l.length l 0 (Nat.le_refl _)).1; rw [Nat.zero_add] at this; unfold lexP; split
 ·exact this
 ·intro t ht; cases ht
theorem depR_abs (o : Int) (l : List Tok) (m : Nat) (h : -(m : Int) <= o /\ o <= m) : -((m + 1 : Nat) : Int) <= nxtO o l /\ nxtO o l <= ((m + 1 : Nat) : Int) := by
 unfold nxtO depR; split <;> split <;> omega
theorem rowsF_skip {size : Int} {l : List Tok} {k : Nat} (hk : k < l.length) (h : l[k].kind ≠ 5) (cur : List Tok) (fr o : Int) : rowsF size (l.drop k) cur fr o = rowsF size (l.drop (k + 1)) (cur ++ [l[k]]) fr o := by
 rw [List.drop_eq_getElem_cons hk, rowsF, if_neg h]
theorem rowsF_end {size : Int} {l : List Tok} {k : Nat} (hk : k < l.length) (h : l[k].kind = 5) (cur : List Tok) (fr o : Int) : rowsF size (l.drop k) cur fr o = endR o cur fr l[k].pos :: rowsF size (l.drop (k + 1)) [] (l[k].pos + 1) (nxtO o cur) := by
 rw [List.drop_eq_getElem_cons hk, rowsF, if_pos h]
structure RwI (w1 : World) (size : Int) (R : List RowD) (toks : List Tok) (k : Nat) (w : World) (lv : Value) (D : List (SlT × RowD)) (cur : SlT) (ct : List Tok) (fr hi dp o : Int) : Prop where
 s : RwS w1.heap.size (w1.heap.size + 1) (w1.heap.size + 2) w1.heap.size w lv D cur ct fr hi dp o
 b : Below w1.heap.size w1 w
 r : R = D.map (·.2) ++ rowsF size (toks.drop k) ct fr o
 n : D.length + ct.length <= k
 o : -(D.length : Int) <= o /\ o <= D.length
 f : 0 <= fr /\ fr <= size + 1
theorem lkrows_any (s : ByteArray) (w : World) (hT : LexT w) (hs : s.size <= 800000) : Calls Tryz.prog 61 #[.string s] w fun e w' => ∃ v, e = .returned v /\ RowsD w.heap.size w' v (rowsP s.data.toList) /\ Below w.heap.size w w' := by
 have hL := lexParse_any s w hT (by omega); have hsz : s.data.toList.length = s.size := size_list2 s; have hpos := lexP_pos s.data.toList; have hlen := (lexP_len s.data.toList).1; obtain ⟨R, hR⟩ : ∃ R, R = rowsP s.data.toList := ⟨_, rfl⟩; rw [<- hR]; unfold rowsP at hR; rw [hsz] at hpos hlen hR; generalize lexP s.data.toList = X at *; obtain ⟨toks, at_, er⟩ := X; simp only at hL hlen hpos hR; have HR := Lib.hid hR; have HP := Lib.hid hpos; clear hR hpos hsz; go_enter Tryz.func61, Tryz.ntmps61; go_wp2_with fail; refine hL.mono ?_; clear hL; rintro _ w1 ⟨tv, rfl, hown, hb1⟩
 by_cases he : er = 0
 ·subst he
  have HRR : Hid (R = rowsF s.size toks [] 0 0) := Lib.hid (by rw [HR.out, if_pos rfl]); have htk := hown.toks; obtain ⟨ta, tc, rfl⟩ := hown.len; have HB1 := Lib.hid hb1; have HOW := Lib.hid htk; have hst := RwS.start w1; have HST := Lib.hid hst; clear hown htk hb1 hT HR hst; obtain ⟨G, hG⟩ : ∃ G, G = w1.heap.size := ⟨_, rfl⟩; go_wp2_with fail; go_loopw [24] (fun i wr => ∃ (k : Nat) (lv : Value) (D : List (SlT × RowD)) (cur : SlT) (ct : List Tok) (fr hi dp o : Int), k <= toks.length /\ i = .int .i64 (k : Int) /\ RwI w1 s.size R toks k wr lv D cur ct fr hi dp o) (fun i _ => toks.length - (intOf i).toNat)
  case atStart => exact ⟨0, _, _, _, [], 0, 0, 0, 0, Nat.zero_le _, rfl, HST.out, by (repeat' first | with_reducible refine Below.setCell ?_ ?_ _ | with_reducible refine Below.alloc ?_ ?_ _ | with_reducible refine Below.drew ?_ | with_reducible refine below_drewN ?_ _ | with_reducible assumption | with_reducible exact Below.refl _ _ | (simp only [World.size_alloc, World.size_setCell, World.size_drew]; first | done | omega) | omega), by rw [HRR.out, List.drop_zero]; rfl, Nat.le_refl _, by simp, by omega⟩
  case round =>
   clear HST; obtain ⟨k, lv, D, cur, ct, fr, hi, dp, o, hk, rfl, hI⟩ := hrel; have hw1 := hI.b.size
   by_cases hkl : k < toks.length
   ·obtain ⟨b, off, rfl, hlt, hq⟩ := tok_far (HOW.out.below hI.b (Nat.le_refl _)) hkl
    obtain ⟨q0, q1, q2⟩ := hq wr (Below.refl _ _); have hps := HP.out toks[k] (List.getElem_mem hkl); have HE := Lib.hid (fun h => rowsF_end (size := s.size) hkl h ct fr o); have HS := Lib.hid (fun h => rowsF_skip (size := s.size) hkl h ct fr o); have hXb := tokB_below wr toks[k]; generalize toks[k] = t at *; have h1 := hI.s.below hXb; have hA1 := hI.b.trans (hXb.mono hw1); obtain ⟨kd, tx, ps⟩ := t; simp only at q0 q1 q2 hps HE HS; have HI := Lib.hid (And.intro hI (And.intro h1 hA1)); have hr := hI.s.r; have ho := hI.s.o; have hl := hI.s.l; have lr := hr.lt; have lo := ho.lt; have ll := hl.lt; have hrc0 := hr.cell 0 _ rfl; have hrf0 := hr.frozen 0; have hrc1 := hr.cell 1 _ rfl; have hrf1 := hr.frozen 1; have hrc2 := hr.cell 2 _ rfl; have hrf2 := hr.frozen 2; have hrc3 := hr.cell 3 _ rfl; have hrf3 := hr.frozen 3; have hoc0 := ho.cell 0 _ rfl; have hof0 := ho.frozen 0; have hlc0 := hl.cell 0 _ rfl; have hlf0 := hl.frozen 0; clear hr ho hl; clear hq hXb hI h1 hA1
    by_cases h5 : kd = 5
    ·subst h5
     have hcl := rowsEnd_any HI.out.2.1 ps (by omega) (by have := HI.out.1.o; have := HI.out.1.n; omega) (by have := HI.out.1.n; omega) (by have := HI.out.1.n; omega); go_wp2_with fail; refine hcl.mono ?_; rintro _ w3 ⟨rfl, ⟨lv3, h3⟩, hb3⟩
     have HN : Hid (RwI w1 s.size R toks (k + 1) w3 lv3 (D ++ [(cur, endR o ct fr ps)]) (none, 0, 0) [] (ps + 1) 0 0 (nxtO o ct)) := Lib.hid (by
      refine ⟨h3, HI.out.2.2.trans hb3, ?_, ?_, ?_, by omega⟩
      ·rw [HI.out.1.r, HE.out (by trivial)]; simp
      ·have := HI.out.1.n; simp; omega
      ·have := depR_abs o ct D.length HI.out.1.o
       simpa using this)
     clear hcl h3 hb3 hrc0 hrc1 hrc2 hrc3 hrf0 hrf1 hrf2 hrf3 hoc0 hof0 hlc0 hlf0 lr lo ll q0 q1 q2; go_wp2_with fail; go_roundw
     case rel => exact ⟨k + 1, _, _, _, _, _, _, _, _, hkl, by go_num, HN.out⟩
     case measure => simp [intOf]; omega
    ·have e5 : (kd == 5) = false := by simpa using h5
     obtain ⟨ca, cn, cc⟩ := cur; obtain ⟨a', c', e'⟩ := HI.out.1.s.tk.len; simp only [slT, Value.slice.injEq] at e'; obtain ⟨rfl, rfl, rfl⟩ := e'; have H2 := Lib.hid (HI.out.2.1.below (tokB_below _ ⟨kd, tx, ps⟩)); have hrow := H2.out.tk; have hcl := HI.out.1.n; simp only [slT] at hrc0 hrow; have HS5 := Lib.hid (HS.out h5); clear h5 HS HE; go_wp2_with (with_reducible first | refine stop_append ?_)
     refine Stop.out ?_
     refine wpList_append_tokL rfl _ _ rfl w1.heap.size ct ⟨kd, tx, ps⟩ (by exact hrow) (wr.heap.size + 1) (by first | rfl | simp) (by
      have := Cells.new (wr.alloc (.cells #[.int .i64 kd, .string tx, .int .i64 ps] 63)) #[.int .i64 kd, .string tx, .int .i64 ps] 63; rw [World.size_alloc] at this
      exact this) (by omega) (by simp; omega) (wr.heap.size + 2) (by simp) ?_
     intro g3 cap3 w3 hown3 hg3 hat3 hlt3; have hN := H2.out.tok hg3 hown3 (hat3.imp id (fun q => by simp; omega))
     have HN : Hid (RwI w1 s.size R toks (k + 1) (w3.setCell ⟨w1.heap.size + 1, 0, none⟩ (.slice (some ⟨g3, 0, none⟩) (ct.length + 1) cap3)) lv D (some ⟨g3, 0, none⟩, ct.length + 1, cap3) (ct ++ [⟨kd, tx, ps⟩]) fr hi dp o) := Lib.hid (by
      refine ⟨hN, ?_, ?_, ?_, HI.out.1.o, HI.out.1.f⟩
      ·have hA := (HI.out.2.2.alloc (by simp; omega) (tokB ⟨kd, tx, ps⟩)).grown hg3 (by simp; omega) (fun j e => (World.ownsRow.lt hrow j e).1)
       exact hA.setCell (by show w1.heap.size <= w1.heap.size + 1; omega) _
      ·rw [HI.out.1.r, HS5.out]
      ·simp; omega)
     have hr := H2.out.r.kept hg3 (fun e => (H2.out.cur_fresh _ e.symm).2.1 rfl); clear hrow hg3 hown3 hat3 hN hrc0 hrc1 hrc2 hrc3 hrf0 hrf1 hrf2 hrf3 hoc0 hof0 hlc0 hlf0 lr lo ll q0 q1 q2; have lr := hr.lt; have hrc0 := hr.cell 0 _ rfl; have hrf0 := hr.frozen 0; have hrc1 := hr.cell 1 _ rfl; have hrf1 := hr.frozen 1; have hrc2 := hr.cell 2 _ rfl; have hrf2 := hr.frozen 2; have hrc3 := hr.cell 3 _ rfl; have hrf3 := hr.frozen 3; clear hr; go_wp2_with fail; go_roundw
     case rel => exact ⟨k + 1, _, _, _, _, _, _, _, _, hkl, by go_num, HN.out⟩
     case measure => simp [intOf]; omega
   ·obtain rfl : k = toks.length := by omega
    have hRr := hI.r; rw [List.drop_length, rowsF] at hRr; have HI := Lib.hid hI; have hff := hI.f; have HRr := Lib.hid hRr; have hr := hI.s.r; have ho := hI.s.o; have hl := hI.s.l; have lr := hr.lt; have lo := ho.lt; have ll := hl.lt; have hrc0 := hr.cell 0 _ rfl; have hrf0 := hr.frozen 0; have hrc1 := hr.cell 1 _ rfl; have hrf1 := hr.frozen 1; have hrc2 := hr.cell 2 _ rfl; have hrf2 := hr.frozen 2; have hrc3 := hr.cell 3 _ rfl; have hrf3 := hr.frozen 3; have hoc0 := ho.cell 0 _ rfl; have hof0 := ho.frozen 0; have hlc0 := hl.cell 0 _ rfl; have hlf0 := hl.frozen 0; clear hr ho hl; clear hI hRr
    by_cases hlt : fr < (s.size : Int)
    ·have hcl := rowsEnd_any HI.out.s s.size (by omega) (by have := HI.out.o; have := HI.out.n; omega) (by have := HI.out.n; omega) (by have := HI.out.n; omega)
     have HR2 := HRr; rw [if_pos hlt] at HR2; go_wp2_with fail; refine hcl.mono ?_; rintro _ w3 ⟨rfl, ⟨lv3, h3⟩, hb3⟩; have HN := Lib.hid (And.intro h3 (HI.out.b.trans hb3)); clear hcl hb3 hrc0 hrc1 hrc2 hrc3 hrf0 hrf1 hrf2 hrf3 hoc0 hof0 hlc0 hlf0 lr lo ll; have hl := h3.l; have ll := hl.lt; have hlc0 := hl.cell 0 _ rfl; have hlf0 := hl.frozen 0; clear h3 hl; go_wp2_with fail; go_ret; refine ⟨_, rfl, ?_, HB1.out.trans (HN.out.2.mono HB1.out.size)⟩; have := HN.out.1.rows.base (B2 := w.heap.size) (by have := HB1.out.size; omega); rw [HR2.out]
     simpa using this
    ·have HR2 := HRr
     rw [if_neg hlt] at HR2; go_wp2_with fail; go_ret; refine ⟨_, rfl, ?_, HB1.out.trans (HI.out.b.mono HB1.out.size)⟩; have := HI.out.s.rows.base (B2 := w.heap.size) (by have := HB1.out.size; omega); rw [HR2.out]
     simpa using this
 ·have hne : (er != 0) = true := by simpa using he
  have HB1 := Lib.hid hb1; have HR0 : Hid (R = []) := Lib.hid (by rw [HR.out, if_neg he]); clear hown hb1 he HR; go_wp2_with fail; go_ret; rw [HR0.out]; exact ⟨_, rfl, RowsD.nil _ _, HB1.out⟩
theorem flat_row : ∀ (D : List (SlT × RowD)) (j : Nat) (h : j < D.length), (D.flatMap rowC)[j * 4]? = some (slT D[j].1) /\ (D.flatMap rowC)[j * 4 + 1]? = some (.int .i64 D[j].2.lo) /\ (D.flatMap rowC)[j * 4 + 2]? = some (.int .i64 D[j].2.hi) /\ (D.flatMap rowC)[j * 4 + 3]? = some (.int .i64 D[j].2.dep)
 | p :: l, 0, _ => by simp [rowC]
 | p :: l, j + 1, h => by
  have ih := flat_row l j (by simpa using h); have e1 : (j + 1) * 4 = j * 4 + 4 := by omega
  rw [e1]
  simpa [rowC] using ih
def RowsAt (B : Nat) (w : World) (v : Value) (L : List RowD) : Prop :=
 ∃ a cap, v = .slice a L.length cap /\ L.length <= cap /\ cap <= maxLen /\ (a = none -> cap = 0) /\
  ∀ x, a = some x -> L ≠ [] -> x.spot = none /\ x.block < w.heap.size /\ ∀ j (h : j < L.length), ∃ s : SlT, OwnT B w (slT s) L[j].toks /\ w.cell? ⟨x.block, x.off + j * 4, none⟩ = some (slT s) /\
   w.cell? ⟨x.block, x.off + j * 4 + 1, none⟩ = some (.int .i64 L[j].lo) /\ w.cell? ⟨x.block, x.off + j * 4 + 2, none⟩ = some (.int .i64 L[j].hi) /\ w.cell? ⟨x.block, x.off + j * 4 + 3, none⟩ = some (.int .i64 L[j].dep)
theorem RowsAt.nil {B : Nat} {w : World} : RowsAt B w (.slice none 0 0) [] := ⟨none, 0, rfl, Nat.le_refl _, Nat.zero_le _, fun _ => rfl, fun x hx => by cases hx⟩
theorem RowsD.at {B : Nat} {w : World} {v : Value} {L : List RowD} (h : RowsD B w v L) : RowsAt B w v L := by
 obtain ⟨D, rfl, hown, hD⟩ := h; have hlt := World.ownsRow.lt hown; obtain ⟨h1, h2⟩ := hown; rcases h2 with ⟨rfl, h3⟩ | ⟨g, cap, cur, rfl, hb, hg, h3, h4, h5, h6⟩
 ·have : D = [] := List.eq_nil_of_length_eq_zero h3
  subst this; exact RowsAt.nil
 ·refine ⟨_, cap, by rw [List.length_map], by rw [List.length_map]; exact h3, h4, (fun h => by cases h), fun x hx _ => ?_⟩
  cases hx
  refine ⟨rfl, (hlt g rfl).2, fun j hj => ?_⟩; rw [List.length_map] at hj; obtain ⟨f1, f2, f3, f4⟩ := flat_row D j hj; rw [<- h6, List.getElem?_take, if_pos (by omega)] at f1 f2 f3 f4; rw [List.getElem_map]; refine ⟨D[j].1, hD D[j] (List.getElem_mem hj), ?_, ?_, ?_, ?_⟩
  all_goals rw [cell_of_row w g _ cur 110 (0, 0) hg]
  ·simpa using f1
  ·simpa using f2
  ·simpa using f3
  ·simpa using f4
theorem RowsAt.below {B : Nat} {w w' : World} {v : Value} {L : List RowD} (h : RowsAt B w v L) (hb : Below w.heap.size w w') : RowsAt B w' v L := by
 obtain ⟨a, cap, rfl, h1, h2, h3, h4⟩ := h; refine ⟨a, cap, rfl, h1, h2, h3, fun x hx hl => ?_⟩; obtain ⟨g1, g2, g3⟩ := h4 x hx hl; refine ⟨g1, Nat.lt_of_lt_of_le g2 hb.size, fun j hj => ?_⟩; obtain ⟨s, q0, q1, q2, q3, q4⟩ := g3 j hj; exact ⟨s, q0.below hb (Nat.le_refl _), (hb.cell (p := ⟨x.block, x.off + j * 4, none⟩) g2).trans q1, (hb.cell (p := ⟨x.block, x.off + j * 4 + 1, none⟩) g2).trans q2, (hb.cell (p := ⟨x.block, x.off + j * 4 + 2, none⟩) g2).trans q3, (hb.cell (p := ⟨x.block, x.off + j * 4 + 3, none⟩) g2).trans q4⟩
theorem RowsAt.len {B : Nat} {w : World} {v : Value} {L : List RowD} (h : RowsAt B w v L) : ∃ a cap, v = .slice a L.length cap /\ L.length <= cap /\ cap <= maxLen /\ (a = none -> cap = 0) := by
 obtain ⟨a, cap, h1, h2, h3, h4, -⟩ := h; exact ⟨a, cap, h1, h2, h3, h4⟩
theorem RowsAt.get {B : Nat} {w : World} {a : Option Addr} {n cap : Nat} {L : List RowD} (h : RowsAt B w (.slice a n cap) L) {j : Nat} (hj : j < L.length) :
  ∃ b off, ∃ s : SlT, a = some ⟨b, off, none⟩ /\ b < w.heap.size /\ OwnT B w (slT s) L[j].toks /\ w.cell? ⟨b, off + j * 4, none⟩ = some (slT s) /\
   w.cell? ⟨b, off + j * 4 + 1, none⟩ = some (.int .i64 L[j].lo) /\ w.cell? ⟨b, off + j * 4 + 2, none⟩ = some (.int .i64 L[j].hi) /\ w.cell? ⟨b, off + j * 4 + 3, none⟩ = some (.int .i64 L[j].dep) := by
 obtain ⟨a', cap', he, h1, h2, h3, h4⟩ := h; cases he
 cases a with
 | none => have := h3 rfl; omega
 | some x =>
  obtain ⟨b, off, sp⟩ := x; obtain ⟨rfl, g2, g3⟩ := h4 _ rfl (by intro h0; subst h0; simp at hj); obtain ⟨s, q⟩ := g3 j hj; exact ⟨b, off, s, rfl, g2, q⟩
def OkD (l : Bs) (r : RowD) : Prop := FitD l r /\ r.toks.length <= 1000000 /\ -1000000 <= r.dep /\ r.dep <= 1000000
abbrev rowO (s : Value) (r : RowD) : Obj := .cells #[s, .int .i64 r.lo, .int .i64 r.hi, .int .i64 r.dep] 110
structure RwX (B g : Nat) (s : ByteArray) (rv sv : Value) (r : RowD) (w W : World) : Prop where
 own : OwnT B W sv r.toks
 t : Cells W g #[.string s, rv] 98
 b : Cells W w.heap.size #[sv, .int .i64 r.lo, .int .i64 r.hi, .int .i64 r.dep] 110
 p : Below w.heap.size w W
theorem RwX.of {B g : Nat} {s : ByteArray} {rv sv : Value} {r : RowD} {w : World} (h1 : OwnT B w sv r.toks) (h2 : Cells w g #[.string s, rv] 98) : RwX B g s rv sv r w (w.alloc (rowO sv r)) :=
 ⟨h1.alloc _, h2.alloc _, Cells.new _ _ _, (Below.refl _ _).alloc (Nat.le_refl _) _⟩
theorem RwX.below {B g : Nat} {s : ByteArray} {rv sv : Value} {r : RowD} {w W W' : World} (h : RwX B g s rv sv r w W) (hb : Below W.heap.size W W') : RwX B g s rv sv r w W' :=
 ⟨h.own.below hb (Nat.le_refl _), h.t.below hb h.t.lt, h.b.below hb h.b.lt, below_more h.p hb⟩
theorem indented_any (s : ByteArray) (rv : Value) (R : List RowD) (w : World) {B : Nat} (hR : RowsAt B w rv R) (hF : ∀ r ∈ R, OkD s.data.toList r) (hs : s.size <= 800000) :
  Calls Tryz.prog 106 #[txV s rv] w fun e w' => e = .returned (.bool (indentL s.data.toList R)) /\ Below w.heap.size w w' := by
 obtain ⟨ra, rc, rfl, hc1, hc2, -⟩ := hR.len; unfold maxLen at hc2; have HR := Lib.hid hR; have HF := Lib.hid hF; have H0 : Hid (Below w.heap.size w (w.alloc (.cells #[.string s, .slice ra R.length rc] 98)) /\ Cells (w.alloc (.cells #[.string s, .slice ra R.length rc] 98)) w.heap.size #[.string s, .slice ra R.length rc] 98) := Lib.hid ⟨(Below.refl _ w).alloc (Nat.le_refl _) _, Cells.new _ _ _⟩; clear hR hF; go_enter Tryz.func106, Tryz.ntmps106; go_wp2_with fail; go_loopw [8] (fun i wr => ∃ k : Nat, k <= R.length /\ i = .int .i64 (k : Int) /\ Hid (indentL s.data.toList (R.drop k) = indentL s.data.toList R) /\ Below w.heap.size w wr /\ Cells wr w.heap.size #[.string s, .slice ra R.length rc] 98) (fun i _ => R.length - (intOf i).toNat)
 case atStart => exact ⟨0, Nat.zero_le _, rfl, Lib.hid rfl, H0.out.1, H0.out.2⟩
 case round =>
  clear H0; obtain ⟨k, hk, rfl, HA, hb, hg⟩ := hrel
  by_cases hkl : k < R.length
  ·
   obtain ⟨b, off, s0, rfl, hbl, hown, q0, q1, q2, q3⟩ := (HR.out.below hb).get hkl; have hF := HF.out R[k] (List.getElem_mem hkl); have hD : R.drop k = R[k] :: R.drop (k + 1) := List.drop_eq_getElem_cons hkl; have HD := Lib.hid hD; generalize R[k] = r at *; obtain ⟨a, c, he⟩ := hown.len; obtain ⟨sa, sn, sc⟩ := s0; simp only [slT, Value.slice.injEq] at he; obtain ⟨rfl, rfl, rfl⟩ := he; simp only [slT] at q0 hown; have HX := Lib.hid (RwX.of hown hg); have HOK := Lib.hid hF; have HB := Lib.hid hb; have hlen := hF.2.1; have hgl := hg.lt; clear hown hF hb hD; have hgc0 := hg.cell 0 _ rfl; have hgf0 := hg.frozen 0; have hgc1 := hg.cell 1 _ rfl; have hgf1 := hg.frozen 1; clear hg; have hst : indentL s.data.toList (R.drop k) = (indent1 s.data.toList r && indentL s.data.toList (R.drop (k + 1))) := by rw [HD.out]; rfl
   have HST := Lib.hid hst; have kd : IntKind.i64.wrap (2 * r.dep) = 2 * r.dep := by have := HOK.out.2.2; exact IntWalk.i64_in _ (by omega)
   obtain ⟨w0, hw0⟩ : ∃ w0, w0 = wr.alloc (rowO (.slice sa r.toks.length sc) r) := ⟨_, rfl⟩; rw [<- hw0] at HX; have X := fun x : Under w0 => HX.out.below x.below; have c0 := fun x : Under w0 => (X x).t.cell 0 _ rfl; have c1 := fun x : Under w0 => (X x).t.cell 1 _ rfl; have d0 := fun x : Under w0 => (X x).b.cell 0 _ rfl; have d1 := fun x : Under w0 => (X x).b.cell 1 _ rfl; have d2 := fun x : Under w0 => (X x).b.cell 2 _ rfl; have d3 := fun x : Under w0 => (X x).b.cell 3 _ rfl; have hAh := fun x : Under w0 => Under.call x (ahead_any s (some ⟨b, off, none⟩) R.length rc _ r 0 x.w (X x).own.toks HOK.out.2.1 (Nat.zero_le _) hs HOK.out.1); have hEm := fun x : Under w0 => Under.call x (lkEmpty_any x.w sa r.toks.length sc r.lo r.hi r.dep); obtain ⟨A, hA⟩ : ∃ A, A = ahB s.data.toList r 0 := ⟨_, rfl⟩; rw [<- hA] at hAh; change ∀ x : Under w0, Calls _ _ #[_, _, .int .i64 0] _ _ at hAh; have hBl := fun x : Under w0 => Under.call x ((blanks_any (strL A) (2 * r.dep) x.w).mono fun e w' h => ⟨h.1, by rw [h.2]; exact Below.refl _ _⟩)
   have HI : Hid (indent1 s.data.toList r = (decide (r.toks.length = 0) || blkN A (2 * r.dep))) := Lib.hid (by
    unfold indent1; rw [hA]
    congr 1
    cases r.toks <;> rfl)
   rw [strL_list] at hBl; generalize blkN A (2 * r.dep) = bB at *; generalize strL A = sA at *; generalize decide (r.toks.length = 0) = bE at *; have HB2 := Lib.hid (HB.out.trans (HX.out.p.mono HB.out.size)); have HG2 := Lib.hid HX.out.t; clear hA hst HX X; subst hw0
   cases bE with
   | true =>
    go_wp2_with fail; refine wp_region_under _ (by kernel_rfl) (by kernel_rfl) (Below.refl _ _) ?_; repeat (go_big_quiet_step ((first | (with_reducible exact hEm _))))
    refine wpQuiet_nil ?_; rintro _ ⟨x, rfl⟩; have HN : Hid (Below w.heap.size w x.w /\ Cells x.w w.heap.size #[.string s, .slice (some ⟨b, off, none⟩) R.length rc] 98) := Lib.hid ⟨HB2.out.trans (x.below.mono HB2.out.size), HG2.out.below x.below HG2.out.lt⟩; clear hAh hBl hEm c0 c1 d0 d1 d2 d3; go_wp2_with fail; go_roundw
    case rel => exact ⟨k + 1, hkl, by go_num, Lib.hid (by rw [<- HA.out, HST.out, HI.out]; rfl), HN.out⟩
    case measure => simp [intOf]; omega
   | false =>
    go_wp2_with fail; refine wp_region_under _ (by kernel_rfl) (by kernel_rfl) (Below.refl _ _) ?_; repeat (go_big_quiet_step ((first | (with_reducible exact hEm _) | (with_reducible exact hAh _) | (with_reducible exact hBl _))))
    refine wpQuiet_nil ?_; rintro _ ⟨x, rfl⟩
    cases bB with
    | false =>
     have HB3 := Lib.hid (HB2.out.trans (x.below.mono HB2.out.size)); clear hAh hBl hEm c0 c1 d0 d1 d2 d3; go_wp2_with fail; go_ret; rw [<- HA.out, HST.out, HI.out]; exact ⟨rfl, HB3.out⟩
    | true =>
     have HN : Hid (Below w.heap.size w x.w /\ Cells x.w w.heap.size #[.string s, .slice (some ⟨b, off, none⟩) R.length rc] 98) := Lib.hid ⟨HB2.out.trans (x.below.mono HB2.out.size), HG2.out.below x.below HG2.out.lt⟩; clear hAh hBl hEm c0 c1 d0 d1 d2 d3; go_wp2_with fail; go_roundw
     case rel => exact ⟨k + 1, hkl, by go_num, Lib.hid (by rw [<- HA.out, HST.out, HI.out]; rfl), HN.out⟩
     case measure => simp [intOf]; omega
  ·obtain rfl : k = R.length := by omega
   have HB := Lib.hid hb; have HE := Lib.hid HA.out; rw [List.drop_length] at HE; clear hb; have hgc0 := hg.cell 0 _ rfl; have hgf0 := hg.frozen 0; have hgc1 := hg.cell 1 _ rfl; have hgf1 := hg.frozen 1; clear hg; go_wp2_with fail; go_ret; rw [<- HE.out]; exact ⟨rfl, HB.out⟩
theorem badB_any (l : Bs) : Lib.containsAny l [9, 13] = badB l := by
 have hk : ∀ l : Bs, decide (0 <= Lib.indexAny l [9, 13]) = badB l := by
  intro l
  induction l with
  | nil => rfl
  | cons c l ih =>
   have hg := Lib.indexAny_ge [9, 13] l; unfold badB at ih ⊢; rw [List.any_cons, Lib.indexAny, <- ih]
   by_cases h : ([9, 13] : Bs).contains c = true
   ·rw [if_pos h]
    have : (decide (c = 9) || decide (c = 13)) = true := by
     simpa using h
    rw [this]; rfl
   ·rw [if_neg h]
    have : (decide (c = 9) || decide (c = 13)) = false := by
     simpa using h
    rw [this, Bool.false_or]
    by_cases e : Lib.indexAny l [9, 13] = -1
    ·rw [e]; rfl
    ·rw [if_neg (by simpa using e), decide_eq_true (by omega), decide_eq_true (by omega)]
 exact hk l
theorem ahB_small (s : ByteArray) (r : RowD) (i : Nat) : (strL (ahB s.data.toList r i)).size <= s.size := by
 show (ahB s.data.toList r i).toArray.size <= _; unfold ahB cutB; have := size_list2 s; simp
 omega
theorem clean_any (s : ByteArray) (rv : Value) (R : List RowD) (w : World) {B : Nat} (hR : RowsAt B w rv R) (hF : ∀ r ∈ R, OkD s.data.toList r) (hs : s.size <= 800000) :
  Calls Tryz.prog 104 #[txV s rv] w fun e w' => e = .returned (.bool (cleanL s.data.toList R)) /\ Below w.heap.size w w' := by
 obtain ⟨ra, rc, rfl, hc1, hc2, -⟩ := hR.len; unfold maxLen at hc2; have HR := Lib.hid hR; have HF := Lib.hid hF; have H0 : Hid (Below w.heap.size w (w.alloc (.cells #[.string s, .slice ra R.length rc] 98)) /\ Cells (w.alloc (.cells #[.string s, .slice ra R.length rc] 98)) w.heap.size #[.string s, .slice ra R.length rc] 98) := Lib.hid ⟨(Below.refl _ w).alloc (Nat.le_refl _) _, Cells.new _ _ _⟩; clear hR hF; go_enter Tryz.func104, Tryz.ntmps104; go_wp2_with fail; go_loopw [9] (fun i wr => ∃ k : Nat, k <= R.length /\ i = .int .i64 (k : Int) /\ Hid (cleanL s.data.toList (R.drop k) = cleanL s.data.toList R) /\ Below w.heap.size w wr /\ Cells wr w.heap.size #[.string s, .slice ra R.length rc] 98) (fun i _ => R.length - (intOf i).toNat)
 case atStart => exact ⟨0, Nat.zero_le _, rfl, Lib.hid rfl, H0.out.1, H0.out.2⟩
 case round =>
  clear H0; obtain ⟨k, hk, rfl, HA, hb, hg⟩ := hrel
  by_cases hkl : k < R.length
  ·
   obtain ⟨b, off, s0, rfl, hbl, hown, q0, q1, q2, q3⟩ := (HR.out.below hb).get hkl; have hF := HF.out R[k] (List.getElem_mem hkl); have hD : R.drop k = R[k] :: R.drop (k + 1) := List.drop_eq_getElem_cons hkl; have HD := Lib.hid hD; generalize R[k] = r at *; obtain ⟨a, c, he⟩ := hown.len; obtain ⟨sa, sn, sc⟩ := s0; simp only [slT, Value.slice.injEq] at he; obtain ⟨rfl, rfl, rfl⟩ := he; simp only [slT] at q0 hown; have HX := Lib.hid (RwX.of hown hg); have HOK := Lib.hid hF; have HB := Lib.hid hb; have hlen := hF.2.1; have hgl := hg.lt; clear hown hF hb hD; have hgc0 := hg.cell 0 _ rfl; have hgf0 := hg.frozen 0; have hgc1 := hg.cell 1 _ rfl; have hgf1 := hg.frozen 1; clear hg; have HST : Hid (cleanL s.data.toList (R.drop k) = (clean1 s.data.toList r && cleanL s.data.toList (R.drop (k + 1)))) := Lib.hid (by rw [HD.out]; rfl); obtain ⟨w1, rfl⟩ : ∃ w1, w1 = wr := ⟨_, rfl⟩; have HF2 := Lib.hid HOK.out.1; go_wp2_with fail; go_loopw [16] (fun i W => ∃ j : Nat, j <= r.toks.length /\ i = .int .i64 (j : Int) /\ Hid (cleanF s.data.toList r (r.toks.length - j) j = cleanF s.data.toList r r.toks.length 0) /\ RwX B w.heap.size s (.slice (some ⟨b, off, none⟩) R.length rc) (.slice sa r.toks.length sc) r w1 W) (fun i _ => r.toks.length - (intOf i).toNat)
   case atStart => exact ⟨0, Nat.zero_le _, rfl, Lib.hid rfl, HX.out⟩
   case round =>
    clear HX q0 q1 q2 q3 hgc0 hgc1 hgf0 hgf1; obtain ⟨j, hj, rfl, HJ, hX⟩ := hrel; have hAh := ahead_any s (some ⟨b, off, none⟩) R.length rc _ r j wr hX.own.toks hlen hj hs HF2.out; have hAz := ahB_small s r j; have hAc := (HF2.out j hj).2.2.2; have HX := Lib.hid hX; have ht := hX.t; have hv := hX.b; have htl := ht.lt; have hvl := hv.lt; have htc0 := ht.cell 0 _ rfl; have htf0 := ht.frozen 0; have htc1 := ht.cell 1 _ rfl; have htf1 := ht.frozen 1; have hvc0 := hv.cell 0 _ rfl; have hvf0 := hv.frozen 0; have hvc1 := hv.cell 1 _ rfl; have hvf1 := hv.frozen 1; have hvc2 := hv.cell 2 _ rfl; have hvf2 := hv.frozen 2; have hvc3 := hv.cell 3 _ rfl; have hvf3 := hv.frozen 3; clear ht hv hX
    by_cases hjl : j < r.toks.length
    ·have HC : Hid (cleanF s.data.toList r (r.toks.length - j) j = (!badB (ahB s.data.toList r j) && cleanF s.data.toList r (r.toks.length - (j + 1)) (j + 1))) := Lib.hid (by
      rw [show r.toks.length - j = (r.toks.length - (j + 1)) + 1 by omega]; rfl)
     obtain ⟨A, hA⟩ : ∃ A, A = ahB s.data.toList r j := ⟨_, rfl⟩; rw [<- hA] at hAh hAz hAc HC
     have hCA := fun W => Tryz.strings_ContainsAny_laid (strL A) ⟨#[9, 13]⟩ W (by omega) (by decide) (fun q c hc => hAc c (List.mem_of_getElem? hc)) (fun q c hc => by
      have := List.mem_of_getElem? hc; simp at this
      rcases this with rfl | rfl <;> decide)
     change ∀ W, Calls _ _ _ _ (fun e w' => e = .returned (.bool (Lib.containsAny A [9, 13])) /\ _) at hCA; rw [badB_any] at hCA; generalize badB A = bB at *; generalize strL A = sA at *; clear hA hAz hAc; go_wp2_with fail; refine hAh.mono ?_; rintro _ w4 ⟨rfl, hb4⟩; clear hAh; have H4 := Lib.hid (HX.out.below hb4); clear hb4; go_wp2_with fail; refine (hCA _).mono ?_; rintro _ w5 ⟨rfl, hb5⟩; clear hCA; have H5 := Lib.hid (H4.out.below hb5); clear hb5 hvc0 hvc1 hvc2 hvc3 hvf0 hvf1 hvf2 hvf3 htc0 htc1 htf0 htf1 htl hvl
     cases bB with
     | false =>
      go_wp2_with fail; go_roundw
      case rel => exact ⟨j + 1, hjl, by go_num, Lib.hid (by rw [<- HJ.out, HC.out]; rfl), H5.out⟩
      case measure => simp [intOf]; omega
     | true =>
      go_wp2_with fail; go_ret; rw [<- HA.out, HST.out]; unfold clean1; rw [<- HJ.out, HC.out]; exact ⟨rfl, HB.out.trans (H5.out.p.mono HB.out.size)⟩
    ·obtain rfl : j = r.toks.length := by omega
     rw [Nat.sub_self] at HJ; have HC : Hid (clean1 s.data.toList r = (ahB s.data.toList r r.toks.length).isEmpty) := Lib.hid (by unfold clean1; rw [<- HJ.out]; rfl); obtain ⟨A, hA⟩ : ∃ A, A = ahB s.data.toList r r.toks.length := ⟨_, rfl⟩; rw [<- hA] at hAh HC; clear hAz hAc
     have he : (strL A).toList.isEmpty = A.isEmpty := by
      cases A with
      | nil => kernel_rfl
      | cons x A => exact ne_emp (by show (x :: A).toArray.size ≠ 0; simp)
     generalize A.isEmpty = bE at *; generalize strL A = sA at *; clear hA; go_wp2_with fail; refine hAh.mono ?_; rintro _ w4 ⟨rfl, hb4⟩; clear hAh; have H4 := Lib.hid (HX.out.below hb4); clear hb4 hvc0 hvc1 hvc2 hvc3 hvf0 hvf1 hvf2 hvf3 htc0 htc1 htf0 htf1 htl hvl
     cases bE with
     | true =>
      go_wp2_with fail; go_roundw
      case rel => exact ⟨k + 1, hkl, by go_num, Lib.hid (by rw [<- HA.out, HST.out, HC.out]; rfl), HB.out.trans (H4.out.p.mono HB.out.size), H4.out.t⟩
      case measure => simp [intOf]; omega
     | false =>
      go_wp2_with fail; go_ret; rw [<- HA.out, HST.out, HC.out]; exact ⟨rfl, HB.out.trans (H4.out.p.mono HB.out.size)⟩
  ·obtain rfl : k = R.length := by omega
   have HB := Lib.hid hb; have HE := Lib.hid HA.out; rw [List.drop_length] at HE; clear hb; have hgc0 := hg.cell 0 _ rfl; have hgf0 := hg.frozen 0; have hgc1 := hg.cell 1 _ rfl; have hgf1 := hg.frozen 1; clear hg; go_wp2_with fail; go_ret; rw [<- HE.out]; exact ⟨rfl, HB.out⟩
theorem wf_nat {k : Nat} (h : k <= 1000000000) : (Lit.int .i64 (k : Int)).wf = true := by
 rw [Lit.wf, Bool.and_eq_true, decide_eq_true_eq, decide_eq_true_eq]; have e1 : IntKind.i64.min = -9223372036854775808 := rfl; have e2 : IntKind.i64.max = 9223372036854775807 := rfl; omega
theorem spaced_any (s : ByteArray) (rv : Value) (R : List RowD) (w : World) {B : Nat} (hR : RowsAt B w rv R) (hF : ∀ r ∈ R, OkD s.data.toList r) (hs : s.size <= 800000) :
  Calls Tryz.prog 107 #[txV s rv] w fun e w' => e = .returned (.bool (spaceL s.data.toList R)) /\ Below w.heap.size w w' := by
 obtain ⟨ra, rc, rfl, hc1, hc2, -⟩ := hR.len; unfold maxLen at hc2; have HR := Lib.hid hR; have HF := Lib.hid hF; have H0 : Hid (Below w.heap.size w (w.alloc (.cells #[.string s, .slice ra R.length rc] 98)) /\ Cells (w.alloc (.cells #[.string s, .slice ra R.length rc] 98)) w.heap.size #[.string s, .slice ra R.length rc] 98) := Lib.hid ⟨(Below.refl _ w).alloc (Nat.le_refl _) _, Cells.new _ _ _⟩; clear hR hF; go_enter Tryz.func107, Tryz.ntmps107; go_wp2_with fail; go_loopw [10] (fun i wr => ∃ k : Nat, k <= R.length /\ i = .int .i64 (k : Int) /\ Hid (spaceL s.data.toList (R.drop k) = spaceL s.data.toList R) /\ Below w.heap.size w wr /\ Cells wr w.heap.size #[.string s, .slice ra R.length rc] 98) (fun i _ => R.length - (intOf i).toNat)
 case atStart => exact ⟨0, Nat.zero_le _, rfl, Lib.hid rfl, H0.out.1, H0.out.2⟩
 case round =>
  clear H0; obtain ⟨k, hk, rfl, HA, hb, hg⟩ := hrel
  by_cases hkl : k < R.length
  ·
   obtain ⟨b, off, s0, rfl, hbl, hown, q0, q1, q2, q3⟩ := (HR.out.below hb).get hkl; have hF := HF.out R[k] (List.getElem_mem hkl); have hD : R.drop k = R[k] :: R.drop (k + 1) := List.drop_eq_getElem_cons hkl; have HD := Lib.hid hD; generalize R[k] = r at *; obtain ⟨a, c, he⟩ := hown.len; obtain ⟨sa, sn, sc⟩ := s0; simp only [slT, Value.slice.injEq] at he; obtain ⟨rfl, rfl, rfl⟩ := he; simp only [slT] at q0 hown; have HX := Lib.hid (RwX.of hown hg); have HOK := Lib.hid hF; have HB := Lib.hid hb; have hlen := hF.2.1; have hgl := hg.lt; clear hown hF hb hD; have hgc0 := hg.cell 0 _ rfl; have hgf0 := hg.frozen 0; have hgc1 := hg.cell 1 _ rfl; have hgf1 := hg.frozen 1; clear hg; have HST : Hid (spaceL s.data.toList (R.drop k) = (spaceF s.data.toList r (r.toks.length - 1) 1 && spaceL s.data.toList (R.drop (k + 1)))) := Lib.hid (by rw [HD.out]; rfl); obtain ⟨w1, rfl⟩ : ∃ w1, w1 = wr := ⟨_, rfl⟩; have HF2 := Lib.hid HOK.out.1; have hEq := lkEq_any _ _ r HX.out.own.toks hlen; obtain ⟨E, hE⟩ : ∃ E, E = eqI r := ⟨_, rfl⟩; rw [<- hE] at hEq; have HE := Lib.hid hE; clear hE; go_wp2_with fail; refine hEq.mono ?_; rintro _ w2 ⟨rfl, hb2⟩; clear hEq; have H2 := Lib.hid (HX.out.below hb2); clear hb2 HX q0 q1 q2 q3 hgc0 hgc1 hgf0 hgf1; go_wp2_with fail; go_loopw [6] (fun i W => ∃ j : Nat, 1 <= j /\ (j <= r.toks.length \/ j = 1) /\ i = .int .i64 (j : Int) /\ Hid (spaceF s.data.toList r (r.toks.length - j) j = spaceF s.data.toList r (r.toks.length - 1) 1) /\ RwX B w.heap.size s (.slice (some ⟨b, off, none⟩) R.length rc) (.slice sa r.toks.length sc) r w1 W) (fun i _ => r.toks.length - (intOf i).toNat)
   case atStart => exact ⟨1, Nat.le_refl _, .inr rfl, rfl, Lib.hid rfl, H2.out⟩
   case round =>
    clear H2; obtain ⟨j, hj1, hj, rfl, HJ, hX⟩ := hrel; have HX := Lib.hid hX; have ht := hX.t; have hv := hX.b; have htl := ht.lt; have hvl := hv.lt; have htc0 := ht.cell 0 _ rfl; have htf0 := ht.frozen 0; have htc1 := ht.cell 1 _ rfl; have htf1 := ht.frozen 1; have hvc0 := hv.cell 0 _ rfl; have hvf0 := hv.frozen 0; have hvc1 := hv.cell 1 _ rfl; have hvf1 := hv.frozen 1; have hvc2 := hv.cell 2 _ rfl; have hvf2 := hv.frozen 2; have hvc3 := hv.cell 3 _ rfl; have hvf3 := hv.frozen 3; clear ht hv hX
    by_cases hjl : j < r.toks.length
    ·have hjn : j <= r.toks.length := by omega
     have HC : Hid (spaceF s.data.toList r (r.toks.length - j) j = ((decide ((j : Int) = eqI r) || blkN (ahB s.data.toList r j) (gapN r.toks j)) && spaceF s.data.toList r (r.toks.length - (j + 1)) (j + 1))) := Lib.hid (by
      rw [show r.toks.length - j = (r.toks.length - (j + 1)) + 1 by omega]; rfl)
     rw [<- HE.out] at HC; have X := fun x : Under wr => HX.out.below x.below; have c0 := fun x : Under wr => (X x).t.cell 0 _ rfl; have c1 := fun x : Under wr => (X x).t.cell 1 _ rfl; have d0 := fun x : Under wr => (X x).b.cell 0 _ rfl; have d1 := fun x : Under wr => (X x).b.cell 1 _ rfl; have d2 := fun x : Under wr => (X x).b.cell 2 _ rfl; have d3 := fun x : Under wr => (X x).b.cell 3 _ rfl; have hAh := fun x : Under wr => Under.call x (ahead_any s (some ⟨b, off, none⟩) R.length rc _ r j x.w (X x).own.toks hlen hjn hs HF2.out); have hGp := fun x : Under wr => Under.call x (lkGap_any x.w _ r.toks (X x).own.toks hlen (j : Int) (wf_nat (by omega))); rw [Int.toNat_natCast] at hGp; obtain ⟨A, hA⟩ : ∃ A, A = ahB s.data.toList r j := ⟨_, rfl⟩; rw [<- hA] at hAh HC; obtain ⟨G, hG⟩ : ∃ G, G = gapN r.toks j := ⟨_, rfl⟩; rw [<- hG] at hGp HC; have hBl := fun x : Under wr => Under.call x ((blanks_any (strL A) (G : Nat) x.w).mono fun e w' h => ⟨h.1, by rw [h.2]; exact Below.refl _ _⟩); rw [strL_list] at hBl; generalize blkN A (G : Nat) = bB at *; generalize strL A = sA at *; clear hA hG X; have hne := int_dec (j : Int) E; generalize decide ((j : Int) = E) = bE at *
     cases bE with
     | true =>
      have hne2 : ((j : Int) != E) = false := by rw [bne, hne]; rfl
      go_wp2_with fail; refine wp_region_under wr (by kernel_rfl) (by kernel_rfl) (Below.refl _ _) ?_; repeat (go_big_quiet_step (fail))
      refine wpQuiet_nil ?_; rintro _ ⟨x, rfl⟩; have HX3 := Lib.hid (HX.out.below x.below); clear hAh hBl hGp c0 c1 d0 d1 d2 d3 hvc0 hvc1 hvc2 hvc3 hvf0 hvf1 hvf2 hvf3 htc0 htc1 htf0 htf1 htl hvl; go_wp2_with fail; go_roundw
      case rel => exact ⟨j + 1, by omega, .inl hjl, by go_num, Lib.hid (by rw [<- HJ.out, HC.out]; rfl), HX3.out⟩
      case measure => simp [intOf]; omega
     | false =>
      have hne2 : ((j : Int) != E) = true := by rw [bne, hne]; rfl
      go_wp2_with fail; refine wp_region_under wr (by kernel_rfl) (by kernel_rfl) (Below.refl _ _) ?_; repeat (go_big_quiet_step ((first | (with_reducible exact hGp _) | (with_reducible exact hAh _) | (with_reducible exact hBl _))))
      refine wpQuiet_nil ?_; rintro _ ⟨x, rfl⟩
      cases bB with
      | false =>
       have HX3 := Lib.hid (HX.out.below x.below); clear hAh hBl hGp c0 c1 d0 d1 d2 d3 hvc0 hvc1 hvc2 hvc3 hvf0 hvf1 hvf2 hvf3 htc0 htc1 htf0 htf1 htl hvl; go_wp2_with fail; go_ret; rw [<- HA.out, HST.out, <- HJ.out, HC.out]; exact ⟨rfl, HB.out.trans (HX3.out.p.mono HB.out.size)⟩
      | true =>
       have HX3 := Lib.hid (HX.out.below x.below); clear hAh hBl hGp c0 c1 d0 d1 d2 d3 hvc0 hvc1 hvc2 hvc3 hvf0 hvf1 hvf2 hvf3 htc0 htc1 htf0 htf1 htl hvl; go_wp2_with fail; go_roundw
       case rel => exact ⟨j + 1, by omega, .inl hjl, by go_num, Lib.hid (by rw [<- HJ.out, HC.out]; rfl), HX3.out⟩
       case measure => simp [intOf]; omega
    ·have hj0 : r.toks.length - j = 0 := by omega
     rw [hj0] at HJ; go_wp2_with fail; go_roundw
     case rel => exact ⟨k + 1, hkl, by go_num, Lib.hid (by rw [<- HA.out, HST.out, <- HJ.out]; rfl), HB.out.trans (HX.out.p.mono HB.out.size), HX.out.t⟩
     case measure => simp [intOf]; omega
  ·obtain rfl : k = R.length := by omega
   have HB := Lib.hid hb; have HE := Lib.hid HA.out; rw [List.drop_length] at HE; clear hb; have hgc0 := hg.cell 0 _ rfl; have hgf0 := hg.frozen 0; have hgc1 := hg.cell 1 _ rfl; have hgf1 := hg.frozen 1; clear hg; go_wp2_with fail; go_ret; rw [<- HE.out]; exact ⟨rfl, HB.out⟩
theorem row_far {B : Nat} {w : World} {a : Option Addr} {n cap : Nat} {L : List RowD} (h : RowsAt B w (.slice a n cap) L) {j : Nat} (hj : j < L.length) :
  ∃ b off, ∃ (sa : Option Addr) (sc : Nat), a = some ⟨b, off, none⟩ /\ b < w.heap.size /\ ∀ W, Below w.heap.size w W -> ToksAt W (.slice sa L[j].toks.length sc) L[j].toks /\ W.cell? ⟨b, off + j * 4, none⟩ = some (.slice sa L[j].toks.length sc) /\
   W.cell? ⟨b, off + j * 4 + 1, none⟩ = some (.int .i64 L[j].lo) /\ W.cell? ⟨b, off + j * 4 + 2, none⟩ = some (.int .i64 L[j].hi) /\ W.cell? ⟨b, off + j * 4 + 3, none⟩ = some (.int .i64 L[j].dep) /\ b < W.heap.size := by
 obtain ⟨b, off, s, rfl, hb, hown, q0, q1, q2, q3⟩ := h.get hj; obtain ⟨a, c, he⟩ := hown.len; obtain ⟨sa, sn, sc⟩ := s; simp only [slT, Value.slice.injEq] at he; obtain ⟨rfl, rfl, rfl⟩ := he; exact ⟨b, off, sa, sc, rfl, hb, fun W hW => ⟨(hown.below hW (Nat.le_refl _)).toks, (hW.cell (p := ⟨b, off + j * 4, none⟩) hb).trans q0, (hW.cell (p := ⟨b, off + j * 4 + 1, none⟩) hb).trans q1, (hW.cell (p := ⟨b, off + j * 4 + 2, none⟩) hb).trans q2, (hW.cell (p := ⟨b, off + j * 4 + 3, none⟩) hb).trans q3, Nat.lt_of_lt_of_le hb hW.size⟩⟩
def prevO (R : List RowD) : Nat -> Option RowD
 | 0 => none
 | k + 1 => R[k]?
theorem emptyRows_any (s : ByteArray) (rv : Value) (R : List RowD) (w : World) {B : Nat} (hR : RowsAt B w rv R) (hF : ∀ r ∈ R, r.toks.length <= 1000000) (hn : R.length <= 1000000) :
  Calls Tryz.prog 105 #[txV s rv] w fun e w' => e = .returned (.bool (emptyL none R)) /\ Below w.heap.size w w' := by
 obtain ⟨ra, rc, rfl, hc1, hc2, -⟩ := hR.len; unfold maxLen at hc2; have HR := Lib.hid hR; have HF := Lib.hid hF; have H0 : Hid (Below w.heap.size w (w.alloc (.cells #[.string s, .slice ra R.length rc] 98)) /\ Cells (w.alloc (.cells #[.string s, .slice ra R.length rc] 98)) w.heap.size #[.string s, .slice ra R.length rc] 98) := Lib.hid ⟨(Below.refl _ w).alloc (Nat.le_refl _) _, Cells.new _ _ _⟩; clear hR hF; go_enter Tryz.func105, Tryz.ntmps105; go_wp2_with fail; go_loopw [8] (fun i wr => ∃ k : Nat, k <= R.length /\ i = .int .i64 (k : Int) /\ Hid (emptyL (prevO R k) (R.drop k) = emptyL none R) /\ Below w.heap.size w wr /\ Cells wr w.heap.size #[.string s, .slice ra R.length rc] 98) (fun i _ => R.length - (intOf i).toNat)
 case atStart => exact ⟨0, Nat.zero_le _, rfl, Lib.hid rfl, H0.out.1, H0.out.2⟩
 case round =>
  clear H0; obtain ⟨k, hk, rfl, HA, hb, hg⟩ := hrel
  by_cases hkl : k < R.length
  ·obtain ⟨b, off, sa, sc, rfl, hbl, hq⟩ := row_far HR.out hkl
   have HQ := Lib.hid hq; obtain ⟨-, q0, q1, q2, q3, hbw⟩ := hq wr hb
   have HD : Hid (emptyL (prevO R k) (R.drop k) = ((!R[k].toks.isEmpty || empty1 (prevO R k) (R.drop (k + 1)).head?) && emptyL (prevO R (k + 1)) (R.drop (k + 1)))) := Lib.hid (by
    rw [List.drop_eq_getElem_cons hkl, emptyL]
    simp only [prevO, List.getElem?_eq_getElem hkl])
   have hi : R[k].toks.isEmpty = decide (R[k].toks.length = 0) := by cases R[k].toks <;> rfl
   rw [hi] at HD; clear hi hq; generalize R[k] = r at *; have HB := Lib.hid hb; have HG := Lib.hid hg; have hgl := hg.lt; have hgc0 := hg.cell 0 _ rfl; have hgf0 := hg.frozen 0; have hgc1 := hg.cell 1 _ rfl; have hgf1 := hg.frozen 1; clear hb hg; have hEm := lkEmpty_any (wr.alloc (rowO (.slice sa r.toks.length sc) r)) sa r.toks.length sc r.lo r.hi r.dep; obtain ⟨bE, hE⟩ : ∃ bE, bE = decide (r.toks.length = 0) := ⟨_, rfl⟩; rw [<- hE] at hEm HD; clear hE; go_wp2_with fail; refine hEm.mono ?_; rintro _ w4 ⟨rfl, hb4⟩; clear hEm; have hA : Below w.heap.size w (wr.alloc (rowO (.slice sa r.toks.length sc) r)) := HB.out.alloc HB.out.size _; have HB4 := Lib.hid (below_more hA hb4); have hg4 := (HG.out.alloc (rowO (.slice sa r.toks.length sc) r)).below hb4 (HG.out.alloc _).lt; have HG4 := Lib.hid hg4; have hgl := hg4.lt; clear hb4 hgc0 hgc1 hgf0 hgf1 q0 q1 q2 q3 hA HB HG; have hg4c0 := hg4.cell 0 _ rfl; have hg4f0 := hg4.frozen 0; have hg4c1 := hg4.cell 1 _ rfl; have hg4f1 := hg4.frozen 1; clear hg4
   cases bE with
   | false =>
    go_wp2_with fail; go_roundw
    case rel => exact ⟨k + 1, hkl, by go_num, Lib.hid (by rw [<- HA.out, HD.out]; rfl), HB4.out, HG4.out⟩
    case measure => simp [intOf]; omega
   | true =>
    cases k with
    | zero =>
     go_wp2_with fail; go_ret; rw [<- HA.out, HD.out]; exact ⟨rfl, HB4.out⟩
    | succ m =>
     have kq : IntKind.i64.wrap ((R.length : Int) - 1) = (R.length : Int) - 1 := IntWalk.i64_in _ (by omega); have km : IntKind.i64.wrap ((m : Int) + 1 - 1) = (m : Int) := by rw [IntWalk.i64_in _ (by omega)]; omega
     have kp : IntKind.i64.wrap ((m : Int) + 1 + 1) = ((m + 2 : Nat) : Int) := by rw [IntWalk.i64_in _ (by omega)]; omega
     have e0 : ((m : Int) + 1 == 0) = false := by rw [beq_eq_false_iff_ne]; omega
     by_cases hl : m + 2 = R.length
     ·have e1 : ((m : Int) + 1 == (R.length : Int) - 1) = true := by rw [beq_iff_eq]; omega
      have hh : (R.drop (m + 2)).head? = none := by rw [List.drop_eq_nil_of_le (by omega)]; rfl
      have HD2 : Hid (emptyL none R = false) := Lib.hid (by rw [<- HA.out, HD.out, hh]; unfold empty1; split <;> simp_all); clear hl hh; go_wp2_with fail; go_ret; rw [HD2.out]; exact ⟨rfl, HB4.out⟩
     ·have e1 : ((m : Int) + 1 == (R.length : Int) - 1) = false := by rw [beq_eq_false_iff_ne]; omega
      have hm0 : m < R.length := by omega
      have hm2 : m + 2 < R.length := by omega
      obtain ⟨b', off', pa, pc, e', -, hp⟩ := row_far HR.out hm0; cases e'
      obtain ⟨b', off', ta, tc, e', -, ht⟩ := row_far HR.out hm2; cases e'
      have HP := Lib.hid hp; have HT := Lib.hid ht
      have HD2 : Hid (emptyL none R = ((!R[m].toks.isEmpty && (!opR R[m].toks && !clR R[m + 2].toks)) && emptyL (prevO R (m + 2)) (R.drop (m + 2)))) := Lib.hid (by
       rw [<- HA.out, HD.out]; have hh : (R.drop (m + 2)).head? = some R[m + 2] := by rw [List.head?_drop, List.getElem?_eq_getElem hm2]
       show ((false || empty1 (R[m]?) (R.drop (m + 2)).head?) && emptyL (prevO R (m + 2)) (R.drop (m + 2))) = _; rw [hh, List.getElem?_eq_getElem hm0]
       rfl)
      have hpl := HF.out R[m] (List.getElem_mem hm0); have htl := HF.out R[m + 2] (List.getElem_mem hm2); have hi : R[m].toks.isEmpty = decide (R[m].toks.length = 0) := by cases R[m].toks <;> rfl
      rw [hi] at HD2; clear hi hp ht HD; generalize R[m] = p at *; generalize R[m + 2] = q at *; obtain ⟨-, p0, p1, p2, p3, pb⟩ := HP.out _ HB4.out; have hEm := lkEmpty_any w4 pa p.toks.length pc p.lo p.hi p.dep; generalize decide (p.toks.length = 0) = bE at *; go_wp2_with fail; refine hEm.mono ?_; rintro _ w5 ⟨rfl, hb5⟩; have HB5 := Lib.hid (And.intro (below_more HB4.out hb5) (HG4.out.below hb5 HG4.out.lt)); clear hEm HB4 HG4 hg4c0 hg4c1 hg4f0 hg4f1 p0 p1 p2 p3 pb hb5
      cases bE with
      | true =>
       go_wp2_with fail; go_ret; rw [HD2.out]; exact ⟨rfl, HB5.out.1⟩
      | false =>
       obtain ⟨pt, p0, p1, p2, p3, pb⟩ := HP.out _ HB5.out.1; have hOp := lkOpens_any w5 _ p.toks p.lo p.hi p.dep pt hpl; have hg5 := HB5.out.2; have hgl5 := hg5.lt; have hg5c0 := hg5.cell 0 _ rfl; have hg5f0 := hg5.frozen 0; have hg5c1 := hg5.cell 1 _ rfl; have hg5f1 := hg5.frozen 1; generalize opR p.toks = bO at *; clear hg5 pt; go_wp2_with fail; refine hOp.mono ?_; rintro _ w6 ⟨rfl, hb6⟩; have HB6 := Lib.hid (And.intro (below_more HB5.out.1 hb6) (HB5.out.2.below hb6 HB5.out.2.lt)); clear hOp HB5 hg5c0 hg5c1 hg5f0 hg5f1 p0 p1 p2 p3 pb hb6
       cases bO with
       | true =>
        go_wp2_with fail; go_ret; rw [HD2.out]; exact ⟨rfl, HB6.out.1⟩
       | false =>
        obtain ⟨tt, t0, t1, t2, t3, tb⟩ := HT.out _ HB6.out.1; have hCl := lkCloses_any w6 _ q.toks q.lo q.hi q.dep tt htl; have hg6 := HB6.out.2; have hgl6 := hg6.lt; have hg6c0 := hg6.cell 0 _ rfl; have hg6f0 := hg6.frozen 0; have hg6c1 := hg6.cell 1 _ rfl; have hg6f1 := hg6.frozen 1; generalize clR q.toks = bC at *; clear hg6 tt; go_wp2_with fail; refine hCl.mono ?_; rintro _ w7 ⟨rfl, hb7⟩; have HB7 := Lib.hid (And.intro (below_more HB6.out.1 hb7) (HB6.out.2.below hb7 HB6.out.2.lt)); clear hCl HB6 hg6c0 hg6c1 hg6f0 hg6f1 t0 t1 t2 t3 tb hb7
        cases bC with
        | true =>
         go_wp2_with fail; go_ret; rw [HD2.out]; exact ⟨rfl, HB7.out.1⟩
        | false =>
         go_wp2_with fail; go_roundw
         case rel => exact ⟨m + 2, Nat.le_of_lt hm2, by go_num, Lib.hid (by rw [HD2.out]; rfl), HB7.out.1, HB7.out.2⟩
         case measure => simp [intOf]; omega
  ·obtain rfl : k = R.length := by omega
   have HB := Lib.hid hb; have HE := Lib.hid HA.out; rw [List.drop_length] at HE; clear hb; have hgc0 := hg.cell 0 _ rfl; have hgf0 := hg.frozen 0; have hgc1 := hg.cell 1 _ rfl; have hgf1 := hg.frozen 1; clear hg; go_wp2_with fail; go_ret; rw [<- HE.out]; exact ⟨by cases prevO R R.length <;> rfl, HB.out⟩
theorem opR_ne {l : List Tok} (h : opR l = true) : 0 < l.length := by
 cases l with
 | nil => cases h
 | cons t l => simp
theorem getLast_at {l : List Tok} (h : 0 < l.length) : l.getLast? = some (l[l.length - 1]'(by omega)) := by
 rw [List.getLast?_eq_getElem?, List.getElem?_eq_getElem (by omega)]
theorem fullL_cons (r : RowD) (R : List RowD) : fullL (r :: R) = if decide (r.toks.length = 0) = true then fullL R else some r := by
 rw [fullL]; have : r.toks.isEmpty = decide (r.toks.length = 0) := by cases r.toks <;> rfl
 rw [this]
theorem joined_any (s : ByteArray) (rv : Value) (R : List RowD) (w : World) {B : Nat} (hR : RowsAt B w rv R) (hF : ∀ r ∈ R, r.toks.length <= 1000000) (hn : R.length <= 1000000) :
  Calls Tryz.prog 109 #[txV s rv] w fun e w' => e = .returned (.bool (joinL R)) /\ Below w.heap.size w w' := by
 obtain ⟨ra, rc, rfl, hc1, hc2, -⟩ := hR.len; unfold maxLen at hc2; have HR := Lib.hid hR; have HF := Lib.hid hF; have H0 : Hid (Below w.heap.size w (w.alloc (.cells #[.string s, .slice ra R.length rc] 98)) /\ Cells (w.alloc (.cells #[.string s, .slice ra R.length rc] 98)) w.heap.size #[.string s, .slice ra R.length rc] 98) := Lib.hid ⟨(Below.refl _ w).alloc (Nat.le_refl _) _, Cells.new _ _ _⟩; clear hR hF; go_enter Tryz.func109, Tryz.ntmps109; go_wp2_with fail; go_loopw [10] (fun i wr => ∃ k : Nat, k <= R.length /\ i = .int .i64 (k : Int) /\ Hid (joinL (R.drop k) = joinL R) /\ Below w.heap.size w wr /\ Cells wr w.heap.size #[.string s, .slice ra R.length rc] 98) (fun i _ => R.length - (intOf i).toNat)
 case atStart => exact ⟨0, Nat.zero_le _, rfl, Lib.hid rfl, H0.out.1, H0.out.2⟩
 case round =>
  clear H0; obtain ⟨k, hk, rfl, HA, hb, hg⟩ := hrel
  by_cases hkl : k < R.length
  ·obtain ⟨b, off, sa, sc, rfl, hbl, hq⟩ := row_far HR.out hkl
   have HQ := Lib.hid hq; obtain ⟨-, q0, q1, q2, q3, hbw⟩ := hq wr hb; have HD : Hid (joinL (R.drop k) = (join1 R[k] (fullL (R.drop (k + 1))) && joinL (R.drop (k + 1)))) := Lib.hid (by rw [List.drop_eq_getElem_cons hkl, joinL]); have htl := HF.out R[k] (List.getElem_mem hkl); clear hq; generalize R[k] = r at *; obtain ⟨w1, rfl⟩ : ∃ w1, w1 = wr := ⟨_, rfl⟩; have HB := Lib.hid hb; have HG := Lib.hid hg; have hgl := hg.lt; have hgc0 := hg.cell 0 _ rfl; have hgf0 := hg.frozen 0; have hgc1 := hg.cell 1 _ rfl; have hgf1 := hg.frozen 1; clear hb hg; have hA : Below w.heap.size w (w1.alloc (rowO (.slice sa r.toks.length sc) r)) := HB.out.alloc HB.out.size _; have hOp := lkOpens_any (w1.alloc (rowO (.slice sa r.toks.length sc) r)) _ r.toks r.lo r.hi r.dep (HQ.out _ hA).1 htl; have HA4 := Lib.hid (And.intro hA (And.intro (HG.out.alloc (rowO (.slice sa r.toks.length sc) r)) (Cells.new w1 #[.slice sa r.toks.length sc, .int .i64 r.lo, .int .i64 r.hi, .int .i64 r.dep] 110)))
   have HJ : Hid (join1 r (fullL (R.drop (k + 1))) = (!opR r.toks || (comLast r || match fullL (R.drop (k + 1)) with
    | none => true
    | some q => !clR q.toks || comHead q))) := Lib.hid rfl
   have HNE := Lib.hid (opR_ne (l := r.toks)); generalize opR r.toks = bO at *; clear hA; go_wp2_with fail; refine hOp.mono ?_; rintro _ w4 ⟨rfl, hb4⟩; have HB4 : Hid (Below w.heap.size w w4 /\ Cells w4 w.heap.size #[.string s, .slice (some ⟨b, off, none⟩) R.length rc] 98 /\ Cells w4 w1.heap.size #[.slice sa r.toks.length sc, .int .i64 r.lo, .int .i64 r.hi, .int .i64 r.dep] 110) := Lib.hid ⟨below_more HA4.out.1 hb4, HA4.out.2.1.below hb4 HA4.out.2.1.lt, HA4.out.2.2.below hb4 HA4.out.2.2.lt⟩; clear hOp hgc0 hgc1 hgf0 hgf1 q0 q1 q2 q3 HB HG HA4 hb4
   cases bO with
   | false =>
    go_wp2_with fail; go_roundw
    case rel => exact ⟨k + 1, hkl, by go_num, Lib.hid (by rw [<- HA.out, HD.out, HJ.out]; rfl), HB4.out.1, HB4.out.2.1⟩
    case measure => simp [intOf]; omega
   | true =>
    have hne := HNE.out rfl; have hlast := getLast_at hne; have HL : Hid (comLast r = comB (r.toks[r.toks.length - 1]'(by omega))) := Lib.hid (by unfold comLast; rw [hlast]); have hkk : r.toks.length - 1 < r.toks.length := by omega
    obtain ⟨b2, off2, rfl, hb2l, hu⟩ := tok_far (HQ.out _ HB4.out.1).1 hkk; obtain ⟨u0, u1, u2, hb2w⟩ : _ /\ _ /\ _ /\ b2 < w4.heap.size := ⟨(hu w4 (Below.refl _ _)).1, (hu w4 (Below.refl _ _)).2.1, (hu w4 (Below.refl _ _)).2.2, hb2l⟩; have kl : IntKind.i64.wrap ((r.toks.length : Int) - 1) = ((r.toks.length - 1 : Nat) : Int) := by rw [IntWalk.i64_in _ (by omega)]; omega
    have hC := lkCom_any (r.toks[r.toks.length - 1]'(by omega)) w4; generalize r.toks[r.toks.length - 1]'(by omega) = t at *; generalize hm : r.toks.length - 1 = m at *; have HM := Lib.hid hm; have hmi : (0 : Int) <= (m : Int) /\ (m : Int) < r.toks.length := by omega
    obtain ⟨tk, tt, tp⟩ := t; simp only [tokV] at hC u0 u1 u2; have hg := HB4.out.2.1; have hv := HB4.out.2.2; have hgl := hg.lt; have hvl := hv.lt; have hgc0 := hg.cell 0 _ rfl; have hgf0 := hg.frozen 0; have hgc1 := hg.cell 1 _ rfl; have hgf1 := hg.frozen 1; have hvc0 := hv.cell 0 _ rfl; have hvf0 := hv.frozen 0; have hvc1 := hv.cell 1 _ rfl; have hvf1 := hv.frozen 1; have hvc2 := hv.cell 2 _ rfl; have hvf2 := hv.frozen 2; have hvc3 := hv.cell 3 _ rfl; have hvf3 := hv.frozen 3; clear hg hv hlast hu hm hkk; have HB5 : Hid (Below w.heap.size w (w4.alloc (tokB ⟨tk, tt, tp⟩)) /\ Cells (w4.alloc (tokB ⟨tk, tt, tp⟩)) w.heap.size #[.string s, .slice (some ⟨b, off, none⟩) R.length rc] 98) := Lib.hid ⟨HB4.out.1.alloc HB4.out.1.size _, HB4.out.2.1.alloc _⟩; obtain ⟨bC, hbC⟩ : ∃ bC, bC = comB ⟨tk, tt, tp⟩ := ⟨_, rfl⟩; rw [<- hbC] at hC HL; clear hbC; go_wp2_with fail; refine hC.mono ?_; rintro _ _ ⟨rfl, rfl⟩; clear hC u0 u1 u2 hgc0 hgc1 hgf0 hgf1 hvc0 hvc1 hvc2 hvc3 hvf0 hvf1 hvf2 hvf3 HB4
    cases bC with
    | true =>
     go_wp2_with fail; go_roundw
     case rel => exact ⟨k + 1, hkl, by go_num, Lib.hid (by rw [<- HA.out, HD.out, HJ.out, HL.out]; rfl), HB5.out.1, HB5.out.2⟩
     case measure => simp [intOf]; omega
    | false =>
     have HJ2 : Hid (joinL R = ((match fullL (R.drop (k + 1)) with
      | none => true
      | some q => !clR q.toks || comHead q) && joinL (R.drop (k + 1)))) := Lib.hid (by rw [<- HA.out, HD.out, HJ.out, HL.out]; rfl)
     clear HL HJ HD HA HNE hne kl hmi HM HQ; have kn : IntKind.i64.wrap ((k : Int) + 1) = ((k + 1 : Nat) : Int) := by rw [IntWalk.i64_in _ (by omega)]; omega
     have hgl5 := HB5.out.2.lt; have hg := HB5.out.2; have hgc0 := hg.cell 0 _ rfl; have hgf0 := hg.frozen 0; have hgc1 := hg.cell 1 _ rfl; have hgf1 := hg.frozen 1; clear hg; go_wp2_with fail; clear hgc0 hgc1 hgf0 hgf1 hgl5; go_loopw [5] (fun i wr => ∃ n : Nat, k + 1 <= n /\ n <= R.length /\ i = .int .i64 (n : Int) /\ Hid (fullL (R.drop n) = fullL (R.drop (k + 1))) /\ Below w.heap.size w wr /\ Cells wr w.heap.size #[.string s, .slice (some ⟨b, off, none⟩) R.length rc] 98) (fun i _ => R.length - (intOf i).toNat)
     case atStart => exact ⟨k + 1, Nat.le_refl _, hkl, by go_num, Lib.hid rfl, HB5.out.1, HB5.out.2⟩
     case round =>
      clear HB5; obtain ⟨n, hn1, hn2, rfl, HF2, hb, hg⟩ := hrel; have HB := Lib.hid hb; have HG := Lib.hid hg; have hgl := hg.lt; have hgc0 := hg.cell 0 _ rfl; have hgf0 := hg.frozen 0; have hgc1 := hg.cell 1 _ rfl; have hgf1 := hg.frozen 1; clear hg
      by_cases hnl : n < R.length
      ·obtain ⟨b', off', va, vc, e', -, hq⟩ := row_far HR.out hnl
       cases e'
       have HQ := Lib.hid hq; obtain ⟨-, q0, q1, q2, q3, hbw⟩ := hq wr hb; have hcons := fullL_cons R[n] (R.drop (n + 1)); rw [<- List.drop_eq_getElem_cons hnl] at hcons; have hvl := HF.out R[n] (List.getElem_mem hnl); clear hq hb; generalize R[n] = q at *; have hEm := lkEmpty_any wr va q.toks.length vc q.lo q.hi q.dep; have HE0 : Hid (decide (q.toks.length = 0) = false -> 0 < q.toks.length) := Lib.hid (fun h => by have := of_decide_eq_false h; omega); have HC := Lib.hid hcons; generalize decide (q.toks.length = 0) = bE at *; have kw : IntKind.i64.wrap ((n : Int) + 1) = ((n + 1 : Nat) : Int) := by rw [IntWalk.i64_in _ (by omega)]; omega
       have eN : ((n : Int) == (R.length : Int)) = false := by rw [beq_eq_false_iff_ne]; omega
       clear hcons; go_wp2_with fail; refine hEm.mono ?_; rintro _ w6 ⟨rfl, hb6⟩; have HB6 := Lib.hid (And.intro (below_more HB.out hb6) (HG.out.below hb6 HG.out.lt)); clear hEm HB HG hgc0 hgc1 hgf0 hgf1 q0 q1 q2 q3 hb6
       cases bE with
       | true =>
        go_wp2_with fail; go_roundw
        case rel => exact ⟨n + 1, by omega, hnl, by go_num, Lib.hid (by rw [<- HF2.out, HC.out]; rfl), HB6.out.1, HB6.out.2⟩
        case measure => simp [intOf]; omega
       | false =>
        have hq0 := HE0.out rfl; obtain ⟨vt, q0, q1, q2, q3, hbw6⟩ := HQ.out _ HB6.out.1; have hA : Below w.heap.size w (w6.alloc (rowO (.slice va q.toks.length vc) q)) := HB6.out.1.alloc HB6.out.1.size _; have hCl := lkCloses_any (w6.alloc (rowO (.slice va q.toks.length vc) q)) _ q.toks q.lo q.hi q.dep (HQ.out _ hA).1 hvl; have HA7 := Lib.hid (And.intro hA (And.intro (HB6.out.2.alloc (rowO (.slice va q.toks.length vc) q)) (Cells.new w6 #[.slice va q.toks.length vc, .int .i64 q.lo, .int .i64 q.hi, .int .i64 q.dep] 110))); obtain ⟨b2, off2, rfl, hb2l, hu⟩ := tok_far vt hq0; have hcm := fun W => lkCom_any (q.toks[0]'hq0) W
        have HJ3 : Hid (joinL R = ((!clR q.toks || comB (q.toks[0]'hq0)) && joinL (R.drop (k + 1)))) := Lib.hid (by
         rw [HJ2.out, <- HF2.out, HC.out]; have : comHead q = comB (q.toks[0]'hq0) := by unfold comHead; rw [List.head?_eq_getElem?, List.getElem?_eq_getElem hq0]
         simp only [Bool.false_eq_true, if_false, this])
        have HU := Lib.hid hu; generalize q.toks[0]'hq0 = t at *; generalize clR q.toks = bK at *; obtain ⟨tk, tt, tp⟩ := t; simp only [tokV] at hcm HU; have hg := HB6.out.2; have hgl6 := hg.lt; have hgc0 := hg.cell 0 _ rfl; have hgf0 := hg.frozen 0; have hgc1 := hg.cell 1 _ rfl; have hgf1 := hg.frozen 1; clear hg vt hA hu HJ2; obtain ⟨bM, hbM⟩ : ∃ bM, bM = comB ⟨tk, tt, tp⟩ := ⟨_, rfl⟩; rw [<- hbM] at hcm HJ3; clear hbM; go_wp2_with fail; refine hCl.mono ?_; rintro _ w8 ⟨rfl, hb8⟩; have HB8 : Hid (Below w.heap.size w w8 /\ Cells w8 w.heap.size #[.string s, .slice (some ⟨b, off, none⟩) R.length rc] 98 /\ Cells w8 w6.heap.size #[.slice (some ⟨b2, off2, none⟩) q.toks.length vc, .int .i64 q.lo, .int .i64 q.hi, .int .i64 q.dep] 110 /\ Below w6.heap.size w6 w8) := Lib.hid ⟨below_more HA7.out.1 hb8, HA7.out.2.1.below hb8 HA7.out.2.1.lt, HA7.out.2.2.below hb8 HA7.out.2.2.lt, below_more ((Below.refl _ _).alloc (Nat.le_refl _) _) hb8⟩; clear hCl HB6 hgc0 hgc1 hgf0 hgf1 q0 q1 q2 q3 hb8 HA7 hbw6 hgl6
        cases bK with
        | false =>
         go_wp2_with fail; go_roundw
         case rel => exact ⟨k + 1, hkl, by go_num, Lib.hid (by rw [HJ3.out]; rfl), HB8.out.1, HB8.out.2.1⟩
         case measure => simp [intOf]; omega
        | true =>
         obtain ⟨u0, u1, u2⟩ := HU.out _ HB8.out.2.2.2; simp only [Nat.zero_mul, Nat.add_zero] at u0 u1 u2; have hb2w : b2 < w8.heap.size := Nat.lt_of_lt_of_le hb2l HB8.out.2.2.2.size; have hv := HB8.out.2.2.1; have hvl8 := hv.lt; have hvc0 := hv.cell 0 _ rfl; have hvf0 := hv.frozen 0; have hvc1 := hv.cell 1 _ rfl; have hvf1 := hv.frozen 1; have hvc2 := hv.cell 2 _ rfl; have hvf2 := hv.frozen 2; have hvc3 := hv.cell 3 _ rfl; have hvf3 := hv.frozen 3; clear hv; have HB9 : Hid (Below w.heap.size w (w8.alloc (tokB ⟨tk, tt, tp⟩)) /\ Cells (w8.alloc (tokB ⟨tk, tt, tp⟩)) w.heap.size #[.string s, .slice (some ⟨b, off, none⟩) R.length rc] 98) := Lib.hid ⟨HB8.out.1.alloc HB8.out.1.size _, HB8.out.2.1.alloc _⟩; go_wp2_with fail; refine (hcm _).mono ?_; rintro _ _ ⟨rfl, rfl⟩; clear hcm u0 u1 u2 hvc0 hvc1 hvc2 hvc3 hvf0 hvf1 hvf2 hvf3 HB8 HU
         cases bM with
         | true =>
          go_wp2_with fail; go_roundw
          case rel => exact ⟨k + 1, hkl, by go_num, Lib.hid (by rw [HJ3.out]; rfl), HB9.out.1, HB9.out.2⟩
          case measure => simp [intOf]; omega
         | false =>
          go_wp2_with fail; go_ret; rw [HJ3.out]; exact ⟨rfl, HB9.out.1⟩
      ·have hnR : n = R.length := by omega
       have HJ3 : Hid (joinL R = joinL (R.drop (k + 1))) := Lib.hid (by
        rw [HJ2.out, <- HF2.out, List.drop_eq_nil_of_le (by omega)]
        simp [fullL])
       have eN : ((n : Int) == (R.length : Int)) = true := by rw [beq_iff_eq]; omega
       clear hb HJ2 hnR; go_wp2_with fail; go_roundw
       case rel => exact ⟨k + 1, hkl, by go_num, Lib.hid (by rw [HJ3.out]), HB.out, HG.out⟩
       case measure => simp [intOf]; omega
  ·obtain rfl : k = R.length := by omega
   have HB := Lib.hid hb; have HE := Lib.hid HA.out; rw [List.drop_length] at HE; clear hb; have hgc0 := hg.cell 0 _ rfl; have hgf0 := hg.frozen 0; have hgc1 := hg.cell 1 _ rfl; have hgf1 := hg.frozen 1; clear hg; go_wp2_with fail; go_ret; rw [<- HE.out]; exact ⟨rfl, HB.out⟩
def TabB (B : Nat) (w : World) : Prop := ∀ W, Below B w W -> Tab W
theorem TabB.go {B : Nat} {w w' : World} (h : TabB B w) (hb : Below B w w') : TabB B w' := fun W hW => h W (hb.trans hW)
theorem TabB.out {B : Nat} {w : World} (h : TabB B w) : Tab w := h w (Below.refl _ _)
theorem cntB_V (s : ByteArray) : countV (scan (bs s) 0) = cntB s.data.toList := rfl
theorem Tryz.infoIntZ : (Tryz.prog.info? 3).map (fun i => (i.zero, i.size, i.bytes)) = some (some (.int .i64 0), 1, 8) := by kernel_rfl
theorem cntB_le (l : Bs) : cntB l <= l.length := by
 unfold cntB; split
 ·have := scan_len (nb l).length (nb l) 0 (Nat.le_refl _)
  rw [nb_len] at this; exact this
 ·omega
section
variable {B B0 g hb rb : Nat} {w W W' : World} {M N : Array Value} {s : SlT} {dep : Int} {toks : List Tok} {L L' : Bs}
end
theorem fit_lo {l : Bs} {r : RowD} (h : FitD l r) : ∀ i, i <= r.toks.length -> 0 <= r.lo /\ r.lo <= ahTo r i
 | 0, hi => by have := h 0 hi; exact ⟨this.1, this.2.1⟩
 | i + 1, hi => by
  have h1 := fit_lo h i (by omega); have h2 := h (i + 1) hi
  have e : ahFr r (i + 1) = ahTo r i + (r.toks[i].text.size : Int) := by
   unfold ahFr ahTo; simp only [List.getElem?_eq_getElem (show i < r.toks.length by omega), Option.map_some, Option.getD_some]
  omega
theorem aligned_any (s : ByteArray) (rv : Value) (R : List RowD) (w : World) {B : Nat} (hR : RowsAt B w rv R) (hF : ∀ r ∈ R, OkD s.data.toList r) (hs : s.size <= 800000) (hT : TabB w.heap.size w) :
  Calls Tryz.prog 108 #[txV s rv] w fun e w' => e = .returned (.bool (alignL s.data.toList R (-1) true)) /\ Below w.heap.size w w' := by
 obtain ⟨ra, rc, rfl, hc1, hc2, -⟩ := hR.len; unfold maxLen at hc2; have HR := Lib.hid hR; have HF := Lib.hid hF; have H0 : Hid (Below w.heap.size w (w.alloc (.cells #[.string s, .slice ra R.length rc] 98)) /\ Cells (w.alloc (.cells #[.string s, .slice ra R.length rc] 98)) w.heap.size #[.string s, .slice ra R.length rc] 98) := Lib.hid ⟨(Below.refl _ w).alloc (Nat.le_refl _) _, Cells.new _ _ _⟩; clear hR hF; go_enter Tryz.func108, Tryz.ntmps108; go_wp2_with fail; go_loopw [3, 4, 14] (fun cv nv i wr => ∃ (k : Nat) (col : Int) (near : Bool), k <= R.length /\ i = .int .i64 (k : Int) /\ cv = .int .i64 col /\ nv = .bool near /\ Hid (alignL s.data.toList (R.drop k) col near = alignL s.data.toList R (-1) true) /\ Below w.heap.size w wr /\ Cells wr w.heap.size #[.string s, .slice ra R.length rc] 98) (fun _ _ i _ => R.length - (intOf i).toNat)
 case atStart => exact ⟨0, -1, true, Nat.zero_le _, rfl, rfl, rfl, Lib.hid rfl, H0.out.1, H0.out.2⟩
 case round =>
  clear H0; obtain ⟨k, col, near, hk, rfl, rfl, rfl, HA, hb, hg⟩ := hrel
  by_cases hkl : k < R.length
  ·obtain ⟨b, off, sa, sc, rfl, hbl, hq⟩ := row_far HR.out hkl
   have HQ := Lib.hid hq; obtain ⟨-, q0, q1, q2, q3, hbw⟩ := hq wr hb
   have HD : Hid (alignL s.data.toList (R.drop k) col near = match eqR R[k].toks with
    | none => near && alignL s.data.toList (R.drop (k + 1)) (-1) true
    | some i => gap6 s.data.toList R[k] i && (decide (col6 s.data.toList R[k] i = if col < 0 then col6 s.data.toList R[k] i else col) &&
    alignL s.data.toList (R.drop (k + 1)) (if col < 0 then col6 s.data.toList R[k] i else col) ((if col < 0 then false else near) || decide ((ahB s.data.toList R[k] i).length = 1)))) := Lib.hid (by rw [List.drop_eq_getElem_cons hkl, alignL]; rfl)
   have hok := HF.out R[k] (List.getElem_mem hkl); clear hq; generalize R[k] = r at *; have HB := Lib.hid hb; have HG := Lib.hid hg; have hgl := hg.lt; have hgc0 := hg.cell 0 _ rfl; have hgf0 := hg.frozen 0; have hgc1 := hg.cell 1 _ rfl; have hgf1 := hg.frozen 1; clear hb hg; have hA : Below w.heap.size w (wr.alloc (rowO (.slice sa r.toks.length sc) r)) := HB.out.alloc HB.out.size _; have hEq := lkEq_any (wr.alloc (rowO (.slice sa r.toks.length sc) r)) _ r (HQ.out _ hA).1 hok.2.1; have HOK := Lib.hid hok; have HA4 := Lib.hid (And.intro hA (And.intro (HG.out.alloc (rowO (.slice sa r.toks.length sc) r)) (Cells.new wr #[.slice sa r.toks.length sc, .int .i64 r.lo, .int .i64 r.hi, .int .i64 r.dep] 110))); clear hA hok
   cases hei : eqR r.toks with
   | none =>
    rw [hei] at HD; have e : eqI r = -1 := by unfold eqI; rw [hei]
    rw [e] at hEq; clear hei e; go_wp2_with fail; refine hEq.mono ?_; rintro _ w4 ⟨rfl, hb4⟩; have HB4 : Hid (Below w.heap.size w w4 /\ Cells w4 w.heap.size #[.string s, .slice (some ⟨b, off, none⟩) R.length rc] 98) := Lib.hid ⟨below_more HA4.out.1 hb4, HA4.out.2.1.below hb4 HA4.out.2.1.lt⟩; clear hEq hgc0 hgc1 hgf0 hgf1 q0 q1 q2 q3 HB HG HA4 hb4
    cases near with
    | false =>
     go_wp2_with fail; go_ret; rw [<- HA.out, HD.out]; exact ⟨rfl, HB4.out.1⟩
    | true =>
     go_wp2_with fail; go_roundw
     case rel => exact ⟨k + 1, -1, true, hkl, by go_num, rfl, rfl, Lib.hid (by rw [<- HA.out, HD.out]; rfl), HB4.out.1, HB4.out.2⟩
     case measure => simp [intOf]; omega
   | some i =>
    rw [hei] at HD; have e : eqI r = (i : Int) := by unfold eqI; rw [hei]
    rw [e] at hEq; have hil := eqR_some hei; have hie : i <= r.toks.length := by omega
    clear hei e; simp only at HD; go_wp2_with fail; refine hEq.mono ?_; rintro _ w4 ⟨rfl, hb4⟩; have HB4 : Hid (Below w.heap.size w w4 /\ Cells w4 w.heap.size #[.string s, .slice (some ⟨b, off, none⟩) R.length rc] 98 /\ Cells w4 wr.heap.size #[.slice sa r.toks.length sc, .int .i64 r.lo, .int .i64 r.hi, .int .i64 r.dep] 110) := Lib.hid ⟨below_more HA4.out.1 hb4, HA4.out.2.1.below hb4 HA4.out.2.1.lt, HA4.out.2.2.below hb4 HA4.out.2.2.lt⟩; have hAh := ahead_any s (some ⟨b, off, none⟩) R.length rc _ r i w4 (HQ.out _ HB4.out.1).1 HOK.out.2.1 hie hs HOK.out.1; obtain ⟨x, hx⟩ : ∃ x : Nat, r.lo = x := ⟨r.lo.toNat, by have := fit_lo HOK.out.1 i hie; omega⟩; obtain ⟨y, hy⟩ : ∃ y : Nat, ahTo r i = y := ⟨(ahTo r i).toNat, by have := fit_lo HOK.out.1 i hie; omega⟩
    have hxy : (0 : Int) <= x /\ (x : Int) <= y /\ (y : Int) <= s.size := by
     have h1 := fit_lo HOK.out.1 i hie; have h2 := (HOK.out.1 i hie).2.2.1; rw [size_list2] at h2; omega
    have hCB : Hid (col6 s.data.toList r i = (cntB (s.extract x y).data.toList : Int)) := Lib.hid (by
     unfold col6 cutB; rw [hx, hy, cut_list]
     rfl)
    have hSz : (s.extract x y).size <= 800000 := by rw [ByteArray.size_extract]; omega
    obtain ⟨S, hS⟩ : ∃ S, s.extract x y = S := ⟨_, rfl⟩; rw [hS] at hCB hSz; have hcl := cntB_le S.data.toList; rw [size_list2] at hcl; have hCt := fun W (hW : Below w.heap.size w W) => Count_any S W ((hT.go hW).out) (by omega); rw [cntB_V] at hCt; generalize cntB S.data.toList = cn at *; generalize col6 s.data.toList r i = c6 at *; generalize (scan (bs S) 0).2.isNone = vb at *; have hgp : Hid (gap6 s.data.toList r i = (!(ahB s.data.toList r i).isEmpty && blkN (ahB s.data.toList r i) (ahB s.data.toList r i).length)) := Lib.hid rfl; have hAz := ahB_small s r i; obtain ⟨A, hA⟩ : ∃ A, A = ahB s.data.toList r i := ⟨_, rfl⟩; rw [<- hA] at hAh HD hgp hAz; generalize gap6 s.data.toList r i = g6 at *
    have he : (strL A).toList.isEmpty = A.isEmpty := by
     cases A with
     | nil => kernel_rfl
     | cons x A => exact ne_emp (by show (x :: A).toArray.size ≠ 0; simp)
    have hBl := fun W => blanks_any (strL A) (A.length : Nat) W
    have hsz : ((strL A).size : Int) = (A.length : Nat) := by
     have : (strL A).size = A.length := by show A.toArray.size = _; simp
     omega
    rw [strL_list] at hBl; have hl1 := int_dec (A.length : Nat) 1; have hl2 : decide (A.length = 1) = decide (((A.length : Nat) : Int) = 1) := decide_eq_decide.2 (by omega); rw [hl2] at HD; generalize decide (((A.length : Nat) : Int) = 1) = b1 at *; generalize A.isEmpty = bE at *; generalize blkN A (A.length : Nat) = bB at *; generalize hLn : ((A.length : Nat) : Int) = Ln at *; generalize strL A = sA at *; have HXY := Lib.hid (And.intro hx hy); clear hx hy hA hEq hgc0 hgc1 hgf0 hgf1 q0 q1 q2 q3 HB HG HA4 hb4 hl2 hLn hgl; have hg := HB4.out.2.1; have hv := HB4.out.2.2; have hgl := hg.lt; have hvl := hv.lt; have hgc0 := hg.cell 0 _ rfl; have hgf0 := hg.frozen 0; have hgc1 := hg.cell 1 _ rfl; have hgf1 := hg.frozen 1; have hvc0 := hv.cell 0 _ rfl; have hvf0 := hv.frozen 0; have hvc1 := hv.cell 1 _ rfl; have hvf1 := hv.frozen 1; have hvc2 := hv.cell 2 _ rfl; have hvf2 := hv.frozen 2; have hvc3 := hv.cell 3 _ rfl; have hvf3 := hv.frozen 3; clear hg hv; go_wp2_with fail; refine hAh.mono ?_; rintro _ w5 ⟨rfl, hb5⟩; have HB5 : Hid (Below w.heap.size w w5 /\ Cells w5 w.heap.size #[.string s, .slice (some ⟨b, off, none⟩) R.length rc] 98 /\ Cells w5 wr.heap.size #[.slice sa r.toks.length sc, .int .i64 r.lo, .int .i64 r.hi, .int .i64 r.dep] 110) := Lib.hid ⟨below_more HB4.out.1 hb5, HB4.out.2.1.below hb5 HB4.out.2.1.lt, HB4.out.2.2.below hb5 HB4.out.2.2.lt⟩; clear hAh hb5 HB4; clear hgc0 hgc1 hgf0 hgf1 hvc0 hvc1 hvc2 hvc3 hvf0 hvf1 hvf2 hvf3 hgl hvl; have HB4 := HB5; clear HB5
    cases bE with
    | true =>
     have hg6 : g6 = false := by rw [hgp.out]; rfl
     subst hg6; clear hgp; go_wp2_with fail; go_ret; rw [<- HA.out, HD.out]; exact ⟨rfl, HB4.out.1⟩
    | false =>
     go_wp2_with fail; refine (hBl _).mono ?_; rintro _ w5 ⟨rfl, hw5⟩; obtain rfl : w5 = _ := hw5; clear hBl
     cases bB with
     | false =>
      have hg6 : g6 = false := by rw [hgp.out]; rfl
      subst hg6; clear hgp; go_wp2_with fail; go_ret; rw [<- HA.out, HD.out]; exact ⟨rfl, HB4.out.1⟩
     | true =>
      have hg6 : g6 = true := by rw [hgp.out]; rfl
      subst hg6; clear hgp; obtain ⟨b2, off2, rfl, hb2l, hu⟩ := tok_far (HQ.out _ HB4.out.1).1 hil.2
      have hyp : (r.toks[i]'hil.2).pos = (y : Int) := by
       have hy := HXY.out.2; unfold ahTo at hy
       simpa [List.getElem?_eq_getElem hil.2] using hy
      rw [hyp] at hu; have HU := Lib.hid hu; have hx := HXY.out.1; clear hu hyp HXY; generalize r.lo = lo at *; subst hx; have c0 := fun x : Under w5 => ((HB4.out.2.1.below x.below HB4.out.2.1.lt)).cell 0 _ rfl; have d0 := fun x : Under w5 => ((HB4.out.2.2.below x.below HB4.out.2.2.lt)).cell 0 _ rfl; have d1 := fun x : Under w5 => ((HB4.out.2.2.below x.below HB4.out.2.2.lt)).cell 1 _ rfl; have u2 := fun x : Under w5 => (HU.out x.w x.below).2.2; have hCtU := fun x : Under w5 => Under.call x ((hCt x.w (below_more HB4.out.1 x.below)).mono fun e w' h => ⟨h.1, by rw [<- h.2]; exact Below.refl _ _⟩); have i1 : (0 : Int) <= (i : Int) := by omega
      have i2 : (i : Int) < (r.toks.length : Int) := by omega
      go_wp2_with fail; refine wp_region_under w5 (by kernel_rfl) (by kernel_rfl) (Below.refl _ _) ?_; repeat (go_big_quiet_step ((first | (with_reducible exact hCtU _))))
      refine wpQuiet_nil ?_; rintro _ ⟨x, rfl⟩; have HB6 : Hid (Below w.heap.size w x.w /\ Cells x.w w.heap.size #[.string s, .slice (some ⟨b, off, none⟩) R.length rc] 98) := Lib.hid ⟨HB4.out.1.trans (x.below.mono HB4.out.1.size), HB4.out.2.1.below x.below HB4.out.2.1.lt⟩; have HD2 : Hid (alignL s.data.toList R (-1) true = (decide (c6 = if col < 0 then c6 else col) && alignL s.data.toList (R.drop (k + 1)) (if col < 0 then c6 else col) ((if col < 0 then false else near) || b1))) := Lib.hid (by rw [<- HA.out, HD.out]; rfl); have hcc := hCB.out; subst hcc; clear hCtU c0 d0 d1 u2 HB4 HU HD HA HOK HQ hCt
      by_cases hc0 : col < 0
      ·have HD3 : Hid (alignL s.data.toList R (-1) true = alignL s.data.toList (R.drop (k + 1)) (cn : Int) (false || b1)) := Lib.hid (by rw [HD2.out, if_pos hc0, if_pos hc0, decide_eq_true rfl]; rfl)
       have hcn : ((cn : Int) != (cn : Int)) = false := by simp
       go_wp2_with fail; go_roundw
       case rel => exact ⟨k + 1, cn, b1, hkl, by go_num, rfl, by first | rfl | rw [hl1], Lib.hid (by rw [HD3.out]; rfl), HB6.out.1, HB6.out.2⟩
       case measure => simp [intOf]; omega
      ·have HD3 : Hid (alignL s.data.toList R (-1) true = (decide ((cn : Int) = col) && alignL s.data.toList (R.drop (k + 1)) col (near || b1))) := Lib.hid (by rw [HD2.out, if_neg hc0, if_neg hc0])
       have hcd := int_dec (cn : Int) col; generalize decide ((cn : Int) = col) = bD at *
       cases bD with
       | false =>
        have hcn : ((cn : Int) != col) = true := by rw [bne, hcd]; rfl
        go_wp2_with fail; go_ret; rw [HD3.out]; exact ⟨rfl, HB6.out.1⟩
       | true =>
        have hcn : ((cn : Int) != col) = false := by rw [bne, hcd]; rfl
        cases near with
        | true =>
         go_wp2_with fail; go_roundw
         case rel => exact ⟨k + 1, col, true, hkl, by go_num, rfl, rfl, Lib.hid (by rw [HD3.out]; rfl), HB6.out.1, HB6.out.2⟩
         case measure => simp [intOf]; omega
        | false =>
         go_wp2_with fail; go_roundw
         case rel => exact ⟨k + 1, col, b1, hkl, by go_num, rfl, by first | rfl | rw [hl1], Lib.hid (by rw [HD3.out]; rfl), HB6.out.1, HB6.out.2⟩
         case measure => simp [intOf]; omega
  ·obtain rfl : k = R.length := by omega
   have HB := Lib.hid hb; have HE := Lib.hid HA.out; rw [List.drop_length] at HE; clear hb; have hgc0 := hg.cell 0 _ rfl; have hgf0 := hg.frozen 0; have hgc1 := hg.cell 1 _ rfl; have hgf1 := hg.frozen 1; clear hg; go_wp2_with fail; go_ret; rw [<- HE.out]; exact ⟨rfl, HB.out⟩
section
variable {B g x : Nat} {w : World} {l : Bs} {cs : Array Value} {t : TypeId}
end
section
variable {B B1 g bx rx : Nat} {w w' : World} {L L' : Bs} {rv : Value} {Q : List TRow} {v : Value} {R : List TRow}
end
section
variable {B B1 g bx rx : Nat} {w w' : World} {L L' : Bs} {rv nv : Value} {Q : List TRow} {v : Value} {R : List TRow}
end
section
variable {B B1 g bx rx rb : Nat} {w w' : World} {L L' : Bs} {rv : Value} {Q : List TRow} {v : Value} {R : List TRow} {s : SlT} {dep : Int} {toks : List Tok}
end
end Go.Proofs.YtbcdaaobbebooaaGreatDoor
