/- Texts of this claim, one behind the other: ExN, ExO, Shf, LxA, LxB, NuU, NuS. -/
import Derived.Test.YtbcdaaobbebooaaGreatDoorMga
import Derived.Test.YtbcdaaobbebooaaGreatDoorMgb
import Derived.Test.YtbcdaaobbebooaaGreatDoorMgc
import Derived.Test.YtbcdaaobbebooaaGreatDoorMgd
import Derived.Test.YtbcdaaobbebooaaGreatDoorMge
import Derived.Shelf.Strings.Builder1
import Derived.Shelf.Strings.Builder2
import Derived.Shelf.Strings.Trim
import Derived.Shelf.Small.Utf8
import Derived.Shelf.Small.Strs
import Derived.Shelf.Small.Wraps
import Derived.Shelf.Strings.BuilderF
import Derived.Shelf.LaysM
import Derived.Shelf.Strconv.Clone
import Derived.Shelf.Strings.Search1
import Derived.Shelf.Strings.Search2
import Derived.Shelf.Strings.Search3
import Derived.Shelf.Strings.Count
import Derived.Shelf.Strings.Shaped
import Derived.Shelf.Strings.Prefix
import Derived.Shelf.Strings.Runes
import Derived.Shelf.Strings.IndexAny
import Derived.Shelf.Strings.AsciiSet
import Derived.Shelf.Strings.IndexAnyAll
import Derived.Shelf.Bits.Mul64
import Derived.Shelf.Strings.Repeat
import Derived.Shelf.Unicode.DecodeSlow
import Derived.Test.YtbcdaaobbebooaaGreatDoorProg
import Derived.Lib.IndexAny
import Derived.Lib.Bytealg
import Derived.Lib.LaidTab
set_option linter.unusedSimpArgs false
set_option linter.unusedVariables false
namespace Go.Proofs.YtbcdaaobbebooaaGreatDoor
set_option maxRecDepth 100000
set_option maxHeartbeats 20000000
open Go.RowKit Go.Tab
theorem quo_parse (s : ByteArray) : (quoX s = none /\ ∃ x e, parseV (parseQ (bs s)) = .tuple #[.string x, .int .i64 e] /\ e ≠ 0) \/ ∃ x, quoX s = some x /\ parseV (parseQ (bs s)) = .tuple #[.string x, .int .i64 0] := by
 have hb : bs s = nb s.data.toList := rfl; have hB : Byt (nb s.data.toList) := nb_byt _; have hl : (nb s.data.toList).length = s.size := by rw [<- hb, bs_length]
 unfold quoX parseQ parseV; rw [hb]
 by_cases h1 : (scanQ (nb s.data.toList)).2.2 = 0
 ·have hz := (scanQ_size hB h1).2
  have h1n : ¬ (scanQ (nb s.data.toList)).2.2 ≠ 0 := fun h => h h1
  by_cases h2 : (scanQ (nb s.data.toList)).2.1 = s.size
  ·right
   have h3 : ¬ (scanQ (nb s.data.toList)).2.1 < (nb s.data.toList).length := by omega
   rw [if_pos ⟨h1, h2⟩, if_neg h1n, if_neg h3]; exact ⟨_, rfl, rfl⟩
  ·left
   have h3 : (scanQ (nb s.data.toList)).2.1 < (nb s.data.toList).length := by omega
   have h4 : ¬ ((scanQ (nb s.data.toList)).2.2 = 0 /\ (scanQ (nb s.data.toList)).2.1 = s.size) := fun h => h2 h.2; rw [if_neg h4, if_neg h1n, if_pos h3]; exact ⟨rfl, _, _, rfl, by decide⟩
 ·left
  have h4 : ¬ ((scanQ (nb s.data.toList)).2.2 = 0 /\ (scanQ (nb s.data.toList)).2.1 = s.size) := fun h => h1 h.1; rw [if_neg h4, if_pos h1]; exact ⟨rfl, _, _, rfl, by simp only; omega⟩
structure Pm (w0 : World) (q tb g : Nat) (t : Tok) (w : World) : Prop where
 rs : Rs w0 q g w
 tok : Cells w tb #[.int .i64 t.kind, .string t.text, .int .i64 t.pos] 63
 tbg : tb ≠ g
 tb0 : w0.heap.size <= tb
 tbq : tb ≠ q
theorem Pm.step {w0 w w' : World} {q tb g : Nat} {t : Tok} (h : Pm w0 q tb g t w) (hs : Save g w w') : Pm w0 q tb g t w' :=
 ⟨h.rs.step hs, hs.cells h.tok h.tbg, h.tbg, h.tb0, h.tbq⟩
theorem PrC.below' {w w' : World} {g : Nat} {lv : Value} {k e : Int} (h : PrC w g lv k e) (hb : Below w.heap.size w w') : PrC w' g lv k e := Cells.below h hb h.lt
theorem prime_step (m : Nat) (hM : ManyC m) (hC : ChoiceC m) : PrimeC (m + 1) := by
 intro w g lv l k d h hd hne; obtain ⟨a0, c0, rfl, hl1, hl2, -⟩ := h.toks.len; unfold maxLen at hl2; have hkl := h.le; have hsm := h.small; have hgw := h.box.lt; have H0 := Lib.hid h; have hR := Rs.start h; have h1 := h.step ((Below.refl _ w).alloc (Nat.le_refl _) (.cells zeroC 52)); have hz1 : (w.alloc (.cells zeroC 52)).heap.size = w.heap.size + 1 := by simp
 obtain ⟨R, hRR⟩ : ∃ R, R = parX (m + 1) .prime (l.drop k) d := ⟨_, rfl⟩; rw [<- hRR] at hne ⊢; go_enter Tryz.func236, Tryz.ntmps236; go_wp2_with fail; generalize w.alloc (.cells zeroC 52) = w1 at hR h1 hz1 ⊢; have hbox := h1.box; have hbl := hbox.lt
 by_cases hk : k = l.length
 ·have hq : ((k : Int) == (l.length : Int)) = true := by rw [beq_iff_eq]; omega
  have hW := fun n => wrong_ok (w1.drewN n) g _ l k (h1.step (below_draws w1.heap.size w1 n)); rw [hk, List.drop_length, parX, badX_e] at hRR; have hdr : l.drop k = [] := by rw [hk, List.drop_length]
  rw [hdr] at hW; have hw2 : wrE [] ≠ 0 := wrE_ne _; generalize wrE [] = ee at *; have HRR := Lib.hid (And.intro hRR hw2); clear hRR hw2 hdr hk h1; have hboxc0 := hbox.cell 0 _ rfl; have hboxf0 := hbox.frozen 0; have hboxc1 := hbox.cell 1 _ rfl; have hboxf1 := hbox.frozen 1; have hboxc2 := hbox.cell 2 _ rfl; have hboxf2 := hbox.frozen 2; clear hbox; go_quiet (fail)
  go_wp2_with fail; refine (hW _).mono ?_; rintro _ w2 ⟨rfl, hc9, hs2⟩; have hR9 := hR.step (((Save.refl g w1).drewN _).trans hs2); have hres := hR9.res; have hrl := hres.lt; have HR := Lib.hid (And.intro hR9 hc9); clear hR hs2 hW hboxc0 hboxc1 hboxc2 hboxf0 hboxf1 hboxf2 hR9 hc9; have hresc0 := hres.cell 0 _ rfl; have hresf0 := hres.frozen 0; have hresc1 := hres.cell 1 _ rfl; have hresf1 := hres.frozen 1; have hresc2 := hres.cell 2 _ rfl; have hresf2 := hres.frozen 2; clear hres; go_wp2; obtain ⟨hR9, hc9⟩ := HR.out; have hq := ((hR9.res.setI 0 (.string ⟨#[]⟩)).setI 1 (.string ⟨#[]⟩)).setI 2 (.slice none 0 0); have hx := hq.cell 0 _ rfl; have hy := hq.cell 1 _ rfl; have hz := hq.cell 2 _ rfl; refine bodyPost_ret (v := .agg #[.string ⟨#[]⟩, .string ⟨#[]⟩, .slice none 0 0]) (by simp [results, Tryz.results236, go_sem, hx, hy, hz]) rfl ?_
  have hS9 := hR9.fin [.string ⟨#[]⟩, .string ⟨#[]⟩, .slice none 0 0]; have hP9 := hR9.prc hc9 [.string ⟨#[]⟩, .string ⟨#[]⟩, .slice none 0 0]; show XP g (.slice a0 l.length c0) k _ w _ (setAll w2 w.heap.size 0 [.string ⟨#[]⟩, .string ⟨#[]⟩, .slice none 0 0]); rw [HRR.out.1]; exact ⟨hS9, hP9, _, _, _, _, _, rfl, fun e => absurd e HRR.out.2⟩
 ·have hkl2 : k < l.length := by omega
  have hq : ((k : Int) == (l.length : Int)) = false := by rw [beq_eq_false_iff_ne]; omega
  obtain ⟨tb, tof, hte, htb, c0', c1', c2'⟩ := ToksAt.get h1.toks hkl2; have hdc : l.drop k = l[k] :: l.drop (k + 1) := List.drop_eq_getElem_cons hkl2; rw [hdc, parX, <- hdc] at hRR; have hsh := h1.short _ (List.getElem_mem hkl2); cases hte
  generalize l[k] = t at *; have hbx := hbox; have hbxc0 := hbx.cell 0 _ rfl; have hbxf0 := hbx.frozen 0; have hbxc1 := hbx.cell 1 _ rfl; have hbxf1 := hbx.frozen 1; have hbxc2 := hbx.cell 2 _ rfl; have hbxf2 := hbx.frozen 2; go_quiet (fail)
  go_wp2_with fail; have ha : ∀ (n b' o' : Nat) (u : Value), b' < w1.heap.size -> w1.cell? ⟨b', o', none⟩ = some u -> ((w1.drewN n).alloc (.cells #[.int .i64 0, .string ⟨#[]⟩, .int .i64 0] 63)).cell? ⟨b', o', none⟩ = some u := fun n b' o' u h1 h2 => (World.cell?_alloc_past _ _ _ h1).trans h2; have ha0 := fun n => ha n _ _ _ hbl hbxc0; have ha1 := fun n => ha n _ _ _ hbl hbxc1; have hb0 := fun n => ha n _ _ _ htb c0'; have hb1 := fun n => ha n _ _ _ htb c1'; have hb2 := fun n => ha n _ _ _ htb c2'; have hn := fun n => Cells.new (w1.drewN n) #[.int .i64 0, .string ⟨#[]⟩, .int .i64 0] 63; have hn0 : ∀ n, ((w1.drewN n).alloc (.cells #[.int .i64 0, .string ⟨#[]⟩, .int .i64 0] 63)).cell? ⟨w1.heap.size, 0, none⟩ = some (.int .i64 0) := fun n => (hn n).cell 0 _ rfl; have hn1 : ∀ n, ((w1.drewN n).alloc (.cells #[.int .i64 0, .string ⟨#[]⟩, .int .i64 0] 63)).cell? ⟨w1.heap.size, 1, none⟩ = some (.string ⟨#[]⟩) := fun n => (hn n).cell 1 _ rfl; have hn2 : ∀ n, ((w1.drewN n).alloc (.cells #[.int .i64 0, .string ⟨#[]⟩, .int .i64 0] 63)).cell? ⟨w1.heap.size, 2, none⟩ = some (.int .i64 0) := fun n => (hn n).cell 2 _ rfl; have hm0 : ∀ n, ((w1.drewN n).alloc (.cells #[.int .i64 0, .string ⟨#[]⟩, .int .i64 0] 63)).frozen? ⟨w1.heap.size, 0, none⟩ = false := fun n => (hn n).frozen 0; have hm1 : ∀ n, ((w1.drewN n).alloc (.cells #[.int .i64 0, .string ⟨#[]⟩, .int .i64 0] 63)).frozen? ⟨w1.heap.size, 1, none⟩ = false := fun n => (hn n).frozen 1; have hm2 : ∀ n, ((w1.drewN n).alloc (.cells #[.int .i64 0, .string ⟨#[]⟩, .int .i64 0] 63)).frozen? ⟨w1.heap.size, 2, none⟩ = false := fun n => (hn n).frozen 2
  have HRR := Lib.hid hRR; have H1 := Lib.hid (And.intro h1 (And.intro hR (And.intro hsh hdc))); clear hRR h1 hR hsh hdc hbox H0; go_region
  have hbe : Below w1.heap.size w1 ((w1.drewN (nq + 1)).alloc (.cells #[.int .i64 t.kind, .string t.text, .int .i64 t.pos] 63)) := (below_draws w1.heap.size w1 (nq + 1)).alloc (Nat.le_refl _) _; have hcl := Cells.new (w1.drewN (nq + 1)) #[.int .i64 t.kind, .string t.text, .int .i64 t.pos] 63; rw [show (w1.drewN (nq + 1)).heap.size = w.heap.size + 1 from hz1] at hcl; generalize (w1.drewN (nq + 1)).alloc (.cells #[.int .i64 t.kind, .string t.text, .int .i64 t.pos] 63) = w2 at hbe hcl ⊢; obtain ⟨h1, hR, hsh, hdc⟩ := H1.out; have h2 := h1.step hbe; have hC9 : Pm w w.heap.size (w.heap.size + 1) g t w2 := ⟨hR.below hbe, hcl, by omega, by omega, by omega⟩
  clear H1 h1 hR hbe hcl ha ha0 ha1 hb0 hb1 hb2 hn hn0 hn1 hn2 hm0 hm1 hm2 c0' c1' c2' hbxc0 hbxc1 hbxc2 hbxf0 hbxf1 hbxf2 hbx hbl htb hq; have hR2 := HRR.out
  by_cases k1 : t.kind = 1
  ·rw [if_pos k1] at hR2
   have kb : (t.kind == 1) = true := by rw [beq_iff_eq]; exact k1
   have hs6 : Save g w2 (w2.setCell ⟨g, 1, none⟩ (.int .i64 ((k : Int) + 1))) := (Save.refl g w2).set 1 _; have hc6 : PrC (w2.setCell ⟨g, 1, none⟩ (.int .i64 ((k : Int) + 1))) g (.slice (some ⟨tb, tof, none⟩) l.length c0) ((k + 1 : Nat)) 0 := h2.box.setI 1 (.int .i64 ((k : Int) + 1)); have h6 : Prs (w2.setCell ⟨g, 1, none⟩ (.int .i64 ((k : Int) + 1))) g (.slice (some ⟨tb, tof, none⟩) l.length c0) l (k + 1) := h2.go hs6 hc6 hkl2; have H6 := Lib.hid (And.intro (hC9.step hs6) h6); have hc9 := h2.box; have K1 := Lib.hid k1; have HR1 := Lib.hid hR2; clear hs6 hc6 h6 h2 k1 HRR hR2; have hres := hC9.rs.res; have hrl := hres.lt; have hfi := hC9.tok; have hfl := hfi.lt; have hgl := hc9.lt; have HR := Lib.hid (And.intro hC9 hc9); have hresc0 := hres.cell 0 _ rfl; have hresf0 := hres.frozen 0; have hresc1 := hres.cell 1 _ rfl; have hresf1 := hres.frozen 1; have hresc2 := hres.cell 2 _ rfl; have hresf2 := hres.frozen 2; have hfic0 := hfi.cell 0 _ rfl; have hfif0 := hfi.frozen 0; have hfic1 := hfi.cell 1 _ rfl; have hfif1 := hfi.frozen 1; have hfic2 := hfi.cell 2 _ rfl; have hfif2 := hfi.frozen 2; have hc9c0 := hc9.cell 0 _ rfl; have hc9f0 := hc9.frozen 0; have hc9c1 := hc9.cell 1 _ rfl; have hc9f1 := hc9.frozen 1; have hc9c2 := hc9.cell 2 _ rfl; have hc9f2 := hc9.frozen 2; clear hC9 hc9 hres hfi; go_wp2_with fail; obtain ⟨hC9, hc9⟩ := HR.out; clear HR hrl hfl hgl hresc0 hresc1 hresc2 hresf0 hresf1 hresf2 hfic0 hfic1 hfic2 hfif0 hfif1 hfif2 hc9c0 hc9c1 hc9c2 hc9f0 hc9f1 hc9f2; clear hC9 hc9
   obtain ⟨hC9, h6⟩ := H6.out; clear H6; generalize w2.setCell ⟨g, 1, none⟩ (.int .i64 ((k : Int) + 1)) = w3 at *; have hI := is_ok w3 g _ l (k + 1) sLp h6; have hR2 := HR1.out; clear HR1
   by_cases s1 : isS (l.drop (k + 1)) sLp = true
   ·rw [if_pos s1] at hR2
    rw [s1] at hI
    have hr1 : (parX m (.many sRp) (l.drop (k + 1)) d).2.2 ≠ -1 := by
     have hne2 := hne; rw [hR2] at hne2; exact andX_ne (g := upX 1 (parX m (.many sRp) (l.drop (k + 1)) d)) hne2
    have hMM := fun w3 h3 => hM w3 g (.slice (some ⟨tb, tof, none⟩) l.length c0) l (k + 1) d sRp h3 (isS_some s1) hd (.inl rfl) hr1; generalize parX m (.many sRp) (l.drop (k + 1)) d = r1 at *; obtain ⟨x1, n1, e1⟩ := r1; simp only at hMM hr1; have HR2 := Lib.hid hR2; clear hR2; refine hI.mono ?_; rintro _ w4 ⟨rfl, hb4⟩; have h4 := h6.step hb4
    replace hC9 := hC9.step (Save.of hb4)
    have hMD := hMM w4.drew (h4.step ((Below.refl _ _).drew)); clear hMM hI h6 hb4; have hC4 := Lib.hid hC9; have hfi := hC9.tok; have hfl := hfi.lt; have hz4 := hC9.rs.save.size; clear hC9; have hfic0 := hfi.cell 0 _ rfl; have hfif0 := hfi.frozen 0; have hfic1 := hfi.cell 1 _ rfl; have hfif1 := hfi.frozen 1; have hfic2 := hfi.cell 2 _ rfl; have hfif2 := hfi.frozen 2; go_wp2_with fail
    go_region_law (first
     | (go_simp; go_at_call 238; refine hMD.mono ?_; rintro _ w5 ⟨hs5, hc5, ya, yn, yc, rfl, hX5⟩; have hfi5 := hs5.cells hfi.drew (by omega); have hfl5 := hfi5.lt; have hg0 := hfi5.cell 1 _ rfl; have hres := (hC4.out.step ((Save.refl g w4).drew.trans hs5)).rs.res; have hrl := hres.lt; have hr0 := hres.cell 0 _ rfl; have hr1' := hres.cell 1 _ rfl; have hr2' := hres.cell 2 _ rfl; have hv0 := hres.frozen 0; have hv1 := hres.frozen 1; have hv2 := hres.frozen 2; have H5 := Lib.hid (And.intro hs5 (And.intro hc5 hX5)); clear hs5 hc5 hX5 hres hfi5))
    all_goals
     go_wp2; obtain ⟨hs5, hc9, hX5⟩ := H5.out; have hsD := (Save.refl g w4).drew.trans hs5; have hR9 := (hC4.out.step hsD).rs; have hq := ((hR9.res.setI 0 (.string oCall)).setI 1 (.string t.text)).setI 2 (.slice ya yn yc); have hx := hq.cell 0 _ rfl; have hy := hq.cell 1 _ rfl; have hz := hq.cell 2 _ rfl; refine bodyPost_ret (v := .agg #[.string oCall, .string t.text, .slice ya yn yc]) (by simp [results, Tryz.results236, go_sem, hx, hy, hz]) rfl ?_
     have hS9 := hR9.fin [.string oCall, .string t.text, .slice ya yn yc]; have hP9 := hR9.prc hc9 [.string oCall, .string t.text, .slice ya yn yc]; show XP g (.slice (some ⟨tb, tof, none⟩) l.length c0) k _ w _ (setAll w5 w.heap.size 0 [.string oCall, .string t.text, .slice ya yn yc]); have hR2 := HR2.out; have hzz : w.heap.size < w4.drew.heap.size := by show w.heap.size < w4.heap.size; omega
     by_cases he : e1 = 0
     ·subst he
      rw [andX_ok (by rfl)] at hR2
      simp only [upX] at hR2; rw [hR2]; rw [show k + 1 + n1 = k + (1 + n1) by omega] at hP9
      exact ⟨hS9, hP9, _, _, _, _, _, rfl, fun _ => ExpIn.keep (Nat.le_of_lt hzz) hzz (hX5 rfl oCall t.text)⟩
     ·rw [andX_bad (by exact he)] at hR2
      simp only [upX] at hR2; rw [hR2]; rw [show k + 1 + n1 = k + (1 + n1) by omega] at hP9
      exact ⟨hS9, hP9, _, _, _, _, _, rfl, fun h => absurd h he⟩
   ·have s1f : isS (l.drop (k + 1)) sLp = false := by simpa using s1
    rw [if_neg s1] at hR2; rw [s1f] at hI; have HR2 := Lib.hid hR2; clear hR2; refine hI.mono ?_; rintro _ w4 ⟨rfl, hb4⟩; have hc9 := h6.box.below hb4 h6.box.lt
    replace hC9 := hC9.step (Save.of hb4)
    clear hI h6 hb4; have hres := hC9.rs.res; have hrl := hres.lt; have hfi := hC9.tok; have hfl := hfi.lt; have hgl := hc9.lt; have HR := Lib.hid (And.intro hC9 hc9); have hresc0 := hres.cell 0 _ rfl; have hresf0 := hres.frozen 0; have hresc1 := hres.cell 1 _ rfl; have hresf1 := hres.frozen 1; have hresc2 := hres.cell 2 _ rfl; have hresf2 := hres.frozen 2; have hfic0 := hfi.cell 0 _ rfl; have hfif0 := hfi.frozen 0; have hfic1 := hfi.cell 1 _ rfl; have hfif1 := hfi.frozen 1; have hfic2 := hfi.cell 2 _ rfl; have hfif2 := hfi.frozen 2; have hc9c0 := hc9.cell 0 _ rfl; have hc9f0 := hc9.frozen 0; have hc9c1 := hc9.cell 1 _ rfl; have hc9f1 := hc9.frozen 1; have hc9c2 := hc9.cell 2 _ rfl; have hc9f2 := hc9.frozen 2; clear hC9 hc9 hres hfi; go_wp2; obtain ⟨hC9, hc9⟩ := HR.out; have hR9 := hC9.rs; have hq := ((hR9.res.setI 0 (.string oName)).setI 1 (.string t.text)).setI 2 (.slice none 0 0); have hx := hq.cell 0 _ rfl; have hy := hq.cell 1 _ rfl; have hz := hq.cell 2 _ rfl; refine bodyPost_ret (v := .agg #[.string oName, .string t.text, .slice none 0 0]) (by simp [results, Tryz.results236, go_sem, hx, hy, hz]) rfl ?_
    have hS9 := hR9.fin [.string oName, .string t.text, .slice none 0 0]; have hP9 := hR9.prc hc9 [.string oName, .string t.text, .slice none 0 0]; show XP g (.slice (some ⟨tb, tof, none⟩) l.length c0) k _ w _ (setAll w4 w.heap.size 0 [.string oName, .string t.text, .slice none 0 0]); rw [HR2.out]; exact ⟨hS9, hP9, _, _, _, _, _, rfl, fun _ => ExpIn.leaf _ _ oName t.text⟩
  ·have kb1 : (t.kind == 1) = false := by rw [beq_eq_false_iff_ne]; exact k1
   rw [if_neg k1] at hR2; have K1 := Lib.hid k1; clear k1 HRR
   by_cases k2 : t.kind = 2
   ·rw [if_pos k2] at hR2
    have kb : (t.kind == 2) = true := by rw [beq_iff_eq]; exact k2
    have HR2 := Lib.hid hR2; have H9 := Lib.hid (h2.box.setI 1 (.int .i64 ((k : Int) + 1))); have K2 := Lib.hid k2; have hc9 := h2.box; have hS5 := Lib.hid (hC9.step ((Save.refl g w2).set 1 (.int .i64 ((k : Int) + 1)))); clear hR2 k2 h2; have hres := hC9.rs.res; have hrl := hres.lt; have hfi := hC9.tok; have hfl := hfi.lt; have hgl := hc9.lt; have HR := Lib.hid (And.intro hC9 hc9); have hresc0 := hres.cell 0 _ rfl; have hresf0 := hres.frozen 0; have hresc1 := hres.cell 1 _ rfl; have hresf1 := hres.frozen 1; have hresc2 := hres.cell 2 _ rfl; have hresf2 := hres.frozen 2; have hfic0 := hfi.cell 0 _ rfl; have hfif0 := hfi.frozen 0; have hfic1 := hfi.cell 1 _ rfl; have hfif1 := hfi.frozen 1; have hfic2 := hfi.cell 2 _ rfl; have hfif2 := hfi.frozen 2; have hc9c0 := hc9.cell 0 _ rfl; have hc9f0 := hc9.frozen 0; have hc9c1 := hc9.cell 1 _ rfl; have hc9f1 := hc9.frozen 1; have hc9c2 := hc9.cell 2 _ rfl; have hc9f2 := hc9.frozen 2; clear hC9 hc9 hres hfi; go_wp2; obtain ⟨hC9, hc9⟩ := HR.out; clear HR hrl hfl hgl hresc0 hresc1 hresc2 hresf0 hresf1 hresf2 hfic0 hfic1 hfic2 hfif0 hfif1 hfif2 hc9c0 hc9c1 hc9c2 hc9f0 hc9f1 hc9f2; clear hC9 hc9; have hR9 := hS5.out.rs; have hc9 : PrC (w2.setCell ⟨g, 1, none⟩ (.int .i64 ((k : Int) + 1))) g (.slice (some ⟨tb, tof, none⟩) l.length c0) ((k + 1 : Nat)) 0 := H9.out; have hq := ((hR9.res.setI 0 (.string oNum)).setI 1 (.string t.text)).setI 2 (.slice none 0 0); have hx := hq.cell 0 _ rfl; have hy := hq.cell 1 _ rfl; have hz := hq.cell 2 _ rfl; refine bodyPost_ret (v := .agg #[.string oNum, .string t.text, .slice none 0 0]) (by simp [results, Tryz.results236, go_sem, hx, hy, hz]) rfl ?_
    have hS9 := hR9.fin [.string oNum, .string t.text, .slice none 0 0]; have hP9 := hR9.prc hc9 [.string oNum, .string t.text, .slice none 0 0]; show XP g (.slice (some ⟨tb, tof, none⟩) l.length c0) k _ w _ (setAll (w2.setCell ⟨g, 1, none⟩ (.int .i64 ((k : Int) + 1))) w.heap.size 0 [.string oNum, .string t.text, .slice none 0 0]); rw [HR2.out]; exact ⟨hS9, hP9, _, _, _, _, _, rfl, fun _ => ExpIn.leaf _ _ oNum t.text⟩
   ·have kb2 : (t.kind == 2) = false := by rw [beq_eq_false_iff_ne]; exact k2
    rw [if_neg k2] at hR2; have K2 := Lib.hid k2; clear k2
    by_cases k3 : t.kind = 3
    ·rw [if_pos k3] at hR2
     have kb : (t.kind == 3) = true := by rw [beq_iff_eq]; exact k3
     have K3 := Lib.hid k3; have hPa := Parse_any t.text w2 hsh h2.tab; rcases quo_parse t.text with ⟨hq1, xs, e, hq2, hq3⟩ | ⟨xs, hq1, hq2⟩
     ·rw [hq1] at hR2
      rw [hq2] at hPa; have HR2 := Lib.hid hR2; have hne1 : (e != 0) = true := by simpa using hq3
      have hc9 := h2.box; have H2 := Lib.hid h2; clear hR2 hq1 hq2 hq3 k3 h2; have hres := hC9.rs.res; have hrl := hres.lt; have hfi := hC9.tok; have hfl := hfi.lt; have hgl := hc9.lt; have HR := Lib.hid (And.intro hC9 hc9); have hresc0 := hres.cell 0 _ rfl; have hresf0 := hres.frozen 0; have hresc1 := hres.cell 1 _ rfl; have hresf1 := hres.frozen 1; have hresc2 := hres.cell 2 _ rfl; have hresf2 := hres.frozen 2; have hfic0 := hfi.cell 0 _ rfl; have hfif0 := hfi.frozen 0; have hfic1 := hfi.cell 1 _ rfl; have hfif1 := hfi.frozen 1; have hfic2 := hfi.cell 2 _ rfl; have hfif2 := hfi.frozen 2; have hc9c0 := hc9.cell 0 _ rfl; have hc9f0 := hc9.frozen 0; have hc9c1 := hc9.cell 1 _ rfl; have hc9f1 := hc9.frozen 1; have hc9c2 := hc9.cell 2 _ rfl; have hc9f2 := hc9.frozen 2; clear hC9 hc9 hres hfi; go_wp2_with fail; refine hPa.mono ?_; rintro _ w3 ⟨rfl, hb3⟩; obtain ⟨hC9, hc9⟩ := HR.out; clear HR hrl hfl hgl hresc0 hresc1 hresc2 hresf0 hresf1 hresf2 hfic0 hfic1 hfic2 hfif0 hfif1 hfif2 hc9c0 hc9c1 hc9c2 hc9f0 hc9f1 hc9f2
      replace hC9 := hC9.step (Save.of hb3)
      replace hc9 := PrC.below' hc9 hb3
      have hN := fail_ok w3 g _ (k : Nat) 3 hc9; clear hb3 hPa hc9; go_wp2_with fail; refine hN.mono ?_; rintro _ w4 ⟨rfl, hc9, hs4⟩
      replace hC9 := hC9.step hs4
      clear hN hs4; have hres := hC9.rs.res; have hrl := hres.lt; have hfi := hC9.tok; have hfl := hfi.lt; have hgl := hc9.lt; have HR := Lib.hid (And.intro hC9 hc9); have hresc0 := hres.cell 0 _ rfl; have hresf0 := hres.frozen 0; have hresc1 := hres.cell 1 _ rfl; have hresf1 := hres.frozen 1; have hresc2 := hres.cell 2 _ rfl; have hresf2 := hres.frozen 2; have hfic0 := hfi.cell 0 _ rfl; have hfif0 := hfi.frozen 0; have hfic1 := hfi.cell 1 _ rfl; have hfif1 := hfi.frozen 1; have hfic2 := hfi.cell 2 _ rfl; have hfif2 := hfi.frozen 2; have hc9c0 := hc9.cell 0 _ rfl; have hc9f0 := hc9.frozen 0; have hc9c1 := hc9.cell 1 _ rfl; have hc9f1 := hc9.frozen 1; have hc9c2 := hc9.cell 2 _ rfl; have hc9f2 := hc9.frozen 2; clear hC9 hc9 hres hfi; go_wp2; obtain ⟨hC9, hc9⟩ := HR.out; have hR9 := hC9.rs; have hq := ((hR9.res.setI 0 (.string ⟨#[]⟩)).setI 1 (.string ⟨#[]⟩)).setI 2 (.slice none 0 0); have hx := hq.cell 0 _ rfl; have hy := hq.cell 1 _ rfl; have hz := hq.cell 2 _ rfl; refine bodyPost_ret (v := .agg #[.string ⟨#[]⟩, .string ⟨#[]⟩, .slice none 0 0]) (by simp [results, Tryz.results236, go_sem, hx, hy, hz]) rfl ?_
      have hS9 := hR9.fin [.string ⟨#[]⟩, .string ⟨#[]⟩, .slice none 0 0]; have hP9 := hR9.prc hc9 [.string ⟨#[]⟩, .string ⟨#[]⟩, .slice none 0 0]; show XP g (.slice (some ⟨tb, tof, none⟩) l.length c0) k _ w _ (setAll w4 w.heap.size 0 [.string ⟨#[]⟩, .string ⟨#[]⟩, .slice none 0 0]); rw [HR2.out]; exact ⟨hS9, hP9, _, _, _, _, _, rfl, fun h => by cases h⟩
     ·rw [hq1] at hR2
      rw [hq2] at hPa; have HR2 := Lib.hid hR2; have hc9 := h2.box; clear hR2 hq1 hq2 k3 h2; have hres := hC9.rs.res; have hrl := hres.lt; have hfi := hC9.tok; have hfl := hfi.lt; have hgl := hc9.lt; have HR := Lib.hid (And.intro hC9 hc9); have hresc0 := hres.cell 0 _ rfl; have hresf0 := hres.frozen 0; have hresc1 := hres.cell 1 _ rfl; have hresf1 := hres.frozen 1; have hresc2 := hres.cell 2 _ rfl; have hresf2 := hres.frozen 2; have hfic0 := hfi.cell 0 _ rfl; have hfif0 := hfi.frozen 0; have hfic1 := hfi.cell 1 _ rfl; have hfif1 := hfi.frozen 1; have hfic2 := hfi.cell 2 _ rfl; have hfif2 := hfi.frozen 2; have hc9c0 := hc9.cell 0 _ rfl; have hc9f0 := hc9.frozen 0; have hc9c1 := hc9.cell 1 _ rfl; have hc9f1 := hc9.frozen 1; have hc9c2 := hc9.cell 2 _ rfl; have hc9f2 := hc9.frozen 2; clear hC9 hc9 hres hfi; go_wp2_with fail; refine hPa.mono ?_; rintro _ w3 ⟨rfl, hb3⟩; obtain ⟨hC9, hc9⟩ := HR.out; clear HR hrl hfl hgl hresc0 hresc1 hresc2 hresf0 hresf1 hresf2 hfic0 hfic1 hfic2 hfif0 hfif1 hfif2 hc9c0 hc9c1 hc9c2 hc9f0 hc9f1 hc9f2
      replace hC9 := hC9.step (Save.of hb3)
      replace hc9 := PrC.below' hc9 hb3
      have H9 := Lib.hid (hc9.setI 1 (.int .i64 ((k : Int) + 1))); have hS5 := Lib.hid (hC9.step ((Save.refl g w3).set 1 (.int .i64 ((k : Int) + 1)))); clear hb3 hPa; have hres := hC9.rs.res; have hrl := hres.lt; have hfi := hC9.tok; have hfl := hfi.lt; have hgl := hc9.lt; have HR := Lib.hid (And.intro hC9 hc9); have hresc0 := hres.cell 0 _ rfl; have hresf0 := hres.frozen 0; have hresc1 := hres.cell 1 _ rfl; have hresf1 := hres.frozen 1; have hresc2 := hres.cell 2 _ rfl; have hresf2 := hres.frozen 2; have hfic0 := hfi.cell 0 _ rfl; have hfif0 := hfi.frozen 0; have hfic1 := hfi.cell 1 _ rfl; have hfif1 := hfi.frozen 1; have hfic2 := hfi.cell 2 _ rfl; have hfif2 := hfi.frozen 2; have hc9c0 := hc9.cell 0 _ rfl; have hc9f0 := hc9.frozen 0; have hc9c1 := hc9.cell 1 _ rfl; have hc9f1 := hc9.frozen 1; have hc9c2 := hc9.cell 2 _ rfl; have hc9f2 := hc9.frozen 2; clear hC9 hc9 hres hfi; go_wp2; obtain ⟨hC9, hc9⟩ := HR.out; clear HR hrl hfl hgl hresc0 hresc1 hresc2 hresf0 hresf1 hresf2 hfic0 hfic1 hfic2 hfif0 hfif1 hfif2 hc9c0 hc9c1 hc9c2 hc9f0 hc9f1 hc9f2; clear hC9 hc9; have hR9 := hS5.out.rs; have hc9 : PrC (w3.setCell ⟨g, 1, none⟩ (.int .i64 ((k : Int) + 1))) g (.slice (some ⟨tb, tof, none⟩) l.length c0) ((k + 1 : Nat)) 0 := H9.out; have hq := ((hR9.res.setI 0 (.string oText)).setI 1 (.string xs)).setI 2 (.slice none 0 0); have hx := hq.cell 0 _ rfl; have hy := hq.cell 1 _ rfl; have hz := hq.cell 2 _ rfl; refine bodyPost_ret (v := .agg #[.string oText, .string xs, .slice none 0 0]) (by simp [results, Tryz.results236, go_sem, hx, hy, hz]) rfl ?_
      have hS9 := hR9.fin [.string oText, .string xs, .slice none 0 0]; have hP9 := hR9.prc hc9 [.string oText, .string xs, .slice none 0 0]; show XP g (.slice (some ⟨tb, tof, none⟩) l.length c0) k _ w _ (setAll (w3.setCell ⟨g, 1, none⟩ (.int .i64 ((k : Int) + 1))) w.heap.size 0 [.string oText, .string xs, .slice none 0 0]); rw [HR2.out]; exact ⟨hS9, hP9, _, _, _, _, _, rfl, fun _ => ExpIn.leaf _ _ oText xs⟩
    ·have kb3 : (t.kind == 3) = false := by rw [beq_eq_false_iff_ne]; exact k3
     rw [if_neg k3] at hR2; have K3 := Lib.hid k3; clear k3; have HR1 := Lib.hid hR2; clear hR2; have hI := is_ok w2 g _ l k sLb h2; have hc9 := h2.box; have hres := hC9.rs.res; have hrl := hres.lt; have hfi := hC9.tok; have hfl := hfi.lt; have hgl := hc9.lt; have HR := Lib.hid (And.intro hC9 hc9); have hresc0 := hres.cell 0 _ rfl; have hresf0 := hres.frozen 0; have hresc1 := hres.cell 1 _ rfl; have hresf1 := hres.frozen 1; have hresc2 := hres.cell 2 _ rfl; have hresf2 := hres.frozen 2; have hfic0 := hfi.cell 0 _ rfl; have hfif0 := hfi.frozen 0; have hfic1 := hfi.cell 1 _ rfl; have hfif1 := hfi.frozen 1; have hfic2 := hfi.cell 2 _ rfl; have hfif2 := hfi.frozen 2; have hc9c0 := hc9.cell 0 _ rfl; have hc9f0 := hc9.frozen 0; have hc9c1 := hc9.cell 1 _ rfl; have hc9f1 := hc9.frozen 1; have hc9c2 := hc9.cell 2 _ rfl; have hc9f2 := hc9.frozen 2; clear hC9 hc9 hres hfi; go_wp2_with fail; obtain ⟨hC9, hc9⟩ := HR.out; clear HR hrl hfl hgl hresc0 hresc1 hresc2 hresf0 hresf1 hresf2 hfic0 hfic1 hfic2 hfif0 hfif1 hfif2 hc9c0 hc9c1 hc9c2 hc9f0 hc9f1 hc9f2; clear hc9; have hR2 := HR1.out; clear HR1
     by_cases s1 : isS (l.drop k) sLb = true
     ·rw [if_pos s1] at hR2
      rw [s1] at hI
      have hr1 : (parX m (.many sRb) (l.drop k) d).2.2 ≠ -1 := by
       have hne2 := hne; rw [hR2] at hne2; exact andX_ne (g := parX m (.many sRb) (l.drop k) d) hne2
      have hMM := fun w3 h3 => hM w3 g (.slice (some ⟨tb, tof, none⟩) l.length c0) l k d sRb h3 (isS_some s1) hd (.inr rfl) hr1; generalize parX m (.many sRb) (l.drop k) d = r1 at *; obtain ⟨x1, n1, e1⟩ := r1; simp only at hMM hr1; have HR2 := Lib.hid hR2; clear hR2; refine hI.mono ?_; rintro _ w4 ⟨rfl, hb4⟩; have h4 := h2.step hb4
      replace hC9 := hC9.step (Save.of hb4)
      clear hI h2 hb4; have hz4 := hC9.rs.save.size; have hw4 := hC9.rs.res.lt; go_wp2_with fail; refine (hMM w4 h4).mono ?_; rintro _ w5 ⟨hs5, hc9, ya, yn, yc, rfl, hX5⟩
      replace hC9 := hC9.step hs5
      have HX5 := Lib.hid hX5; clear hs5 h4 hMM hX5; have hres := hC9.rs.res; have hrl := hres.lt; have hfi := hC9.tok; have hfl := hfi.lt; have hgl := hc9.lt; have HR := Lib.hid (And.intro hC9 hc9); have hresc0 := hres.cell 0 _ rfl; have hresf0 := hres.frozen 0; have hresc1 := hres.cell 1 _ rfl; have hresf1 := hres.frozen 1; have hresc2 := hres.cell 2 _ rfl; have hresf2 := hres.frozen 2; have hfic0 := hfi.cell 0 _ rfl; have hfif0 := hfi.frozen 0; have hfic1 := hfi.cell 1 _ rfl; have hfif1 := hfi.frozen 1; have hfic2 := hfi.cell 2 _ rfl; have hfif2 := hfi.frozen 2; have hc9c0 := hc9.cell 0 _ rfl; have hc9f0 := hc9.frozen 0; have hc9c1 := hc9.cell 1 _ rfl; have hc9f1 := hc9.frozen 1; have hc9c2 := hc9.cell 2 _ rfl; have hc9f2 := hc9.frozen 2; clear hC9 hc9 hres hfi; go_wp2; obtain ⟨hC9, hc9⟩ := HR.out; have hR9 := hC9.rs; have hq := ((hR9.res.setI 0 (.string oList)).setI 1 (.string ⟨#[]⟩)).setI 2 (.slice ya yn yc); have hx := hq.cell 0 _ rfl; have hy := hq.cell 1 _ rfl; have hz := hq.cell 2 _ rfl; refine bodyPost_ret (v := .agg #[.string oList, .string ⟨#[]⟩, .slice ya yn yc]) (by simp [results, Tryz.results236, go_sem, hx, hy, hz]) rfl ?_
      have hS9 := hR9.fin [.string oList, .string ⟨#[]⟩, .slice ya yn yc]; have hP9 := hR9.prc hc9 [.string oList, .string ⟨#[]⟩, .slice ya yn yc]; show XP g (.slice (some ⟨tb, tof, none⟩) l.length c0) k _ w _ (setAll w5 w.heap.size 0 [.string oList, .string ⟨#[]⟩, .slice ya yn yc]); have hR2 := HR2.out
      by_cases he : e1 = 0
      ·subst he
       rw [andX_ok (by rfl)] at hR2
       rw [hR2]; exact ⟨hS9, hP9, _, _, _, _, _, rfl, fun _ => ExpIn.keep (Nat.le_of_lt hw4) hw4 (HX5.out rfl oList ⟨#[]⟩)⟩
      ·rw [andX_bad (by exact he)] at hR2
       rw [hR2]; exact ⟨hS9, hP9, _, _, _, _, _, rfl, fun h => absurd h he⟩
     ·have s1f : isS (l.drop k) sLb = false := by simpa using s1
      rw [if_neg s1] at hR2; rw [s1f] at hI; have HR1 := Lib.hid hR2; clear hR2; refine hI.mono ?_; rintro _ w4 ⟨rfl, hb4⟩; have h4 := h2.step hb4
      replace hC9 := hC9.step (Save.of hb4)
      clear hI h2 hb4; have hI := is_ok w4 g _ l k sLp h4; have hc9 := h4.box; have hres := hC9.rs.res; have hrl := hres.lt; have hfi := hC9.tok; have hfl := hfi.lt; have hgl := hc9.lt; have HR := Lib.hid (And.intro hC9 hc9); have hresc0 := hres.cell 0 _ rfl; have hresf0 := hres.frozen 0; have hresc1 := hres.cell 1 _ rfl; have hresf1 := hres.frozen 1; have hresc2 := hres.cell 2 _ rfl; have hresf2 := hres.frozen 2; have hfic0 := hfi.cell 0 _ rfl; have hfif0 := hfi.frozen 0; have hfic1 := hfi.cell 1 _ rfl; have hfif1 := hfi.frozen 1; have hfic2 := hfi.cell 2 _ rfl; have hfif2 := hfi.frozen 2; have hc9c0 := hc9.cell 0 _ rfl; have hc9f0 := hc9.frozen 0; have hc9c1 := hc9.cell 1 _ rfl; have hc9f1 := hc9.frozen 1; have hc9c2 := hc9.cell 2 _ rfl; have hc9f2 := hc9.frozen 2; clear hC9 hc9 hres hfi; go_wp2_with fail; obtain ⟨hC9, hc9⟩ := HR.out; clear HR hrl hfl hgl hresc0 hresc1 hresc2 hresf0 hresf1 hresf2 hfic0 hfic1 hfic2 hfif0 hfif1 hfif2 hc9c0 hc9c1 hc9c2 hc9f0 hc9f1 hc9f2; clear hc9; have hR2 := HR1.out; clear HR1
      by_cases s2 : isS (l.drop k) sLp = true
      ·rw [if_pos s2] at hR2
       rw [s2] at hI
       by_cases hd6 : 64 <= d
       ·rw [if_pos hd6] at hR2
        have HR2 := Lib.hid hR2; clear hR2; refine hI.mono ?_; rintro _ w5 ⟨rfl, hb5⟩; have h5 := h4.step hb5
        replace hC9 := hC9.step (Save.of hb5)
        clear hI h4 hb5; have hN := into_no w5 g _ k d h5.box hd6; go_wp2_with fail; refine hN.mono ?_; rintro _ w6 ⟨rfl, hc9, hs6⟩
        replace hC9 := hC9.step hs6
        clear hN hs6 h5; have hres := hC9.rs.res; have hrl := hres.lt; have hfi := hC9.tok; have hfl := hfi.lt; have hgl := hc9.lt; have HR := Lib.hid (And.intro hC9 hc9); have hresc0 := hres.cell 0 _ rfl; have hresf0 := hres.frozen 0; have hresc1 := hres.cell 1 _ rfl; have hresf1 := hres.frozen 1; have hresc2 := hres.cell 2 _ rfl; have hresf2 := hres.frozen 2; have hfic0 := hfi.cell 0 _ rfl; have hfif0 := hfi.frozen 0; have hfic1 := hfi.cell 1 _ rfl; have hfif1 := hfi.frozen 1; have hfic2 := hfi.cell 2 _ rfl; have hfif2 := hfi.frozen 2; have hc9c0 := hc9.cell 0 _ rfl; have hc9f0 := hc9.frozen 0; have hc9c1 := hc9.cell 1 _ rfl; have hc9f1 := hc9.frozen 1; have hc9c2 := hc9.cell 2 _ rfl; have hc9f2 := hc9.frozen 2; clear hC9 hc9 hres hfi; go_wp2; obtain ⟨hC9, hc9⟩ := HR.out; have hR9 := hC9.rs; have hq := ((hR9.res.setI 0 (.string ⟨#[]⟩)).setI 1 (.string ⟨#[]⟩)).setI 2 (.slice none 0 0); have hx := hq.cell 0 _ rfl; have hy := hq.cell 1 _ rfl; have hz := hq.cell 2 _ rfl; refine bodyPost_ret (v := .agg #[.string ⟨#[]⟩, .string ⟨#[]⟩, .slice none 0 0]) (by simp [results, Tryz.results236, go_sem, hx, hy, hz]) rfl ?_
        have hS9 := hR9.fin [.string ⟨#[]⟩, .string ⟨#[]⟩, .slice none 0 0]; have hP9 := hR9.prc hc9 [.string ⟨#[]⟩, .string ⟨#[]⟩, .slice none 0 0]; show XP g (.slice (some ⟨tb, tof, none⟩) l.length c0) k _ w _ (setAll w6 w.heap.size 0 [.string ⟨#[]⟩, .string ⟨#[]⟩, .slice none 0 0]); rw [HR2.out]; exact ⟨hS9, hP9, _, _, _, _, _, rfl, fun h => by cases h⟩
       ·rw [if_neg hd6] at hR2
        simp only [List.drop_drop] at hR2
        have hr1 : (parX m .choice (l.drop (k + 1)) (d + 1)).2.2 ≠ -1 := by
         have hne2 := hne; rw [hR2] at hne2; exact andX_ne (g := upX 1 (parX m .choice (l.drop (k + 1)) (d + 1))) hne2
        have hle2 := (parX_le m .choice (l.drop (k + 1)) (d + 1) (by simp only [Nt.okX]) hr1).1
        rw [List.length_drop] at hle2; have hCC := fun w3 h3 => hC w3 g (.slice (some ⟨tb, tof, none⟩) l.length c0) l (k + 1) (d + 1) h3 (by omega) hr1
        rw [show ((d + 1 : Nat) : Int) = (d : Int) + 1 by omega] at hCC
        generalize parX m .choice (l.drop (k + 1)) (d + 1) = r1 at *; obtain ⟨x1, n1, e1⟩ := r1; simp only at hle2 hr1; have HR2 := Lib.hid hR2; clear hR2; refine hI.mono ?_; rintro _ w5 ⟨rfl, hb5⟩; have h5 := h4.step hb5
        replace hC9 := hC9.step (Save.of hb5)
        clear hI h4 hb5; have hN := into_yes w5 g _ k d h5.box (by omega) (by omega)
        go_wp2_with fail; refine hN.mono ?_; rintro _ w6 ⟨rfl, hc6, hs6⟩; have h6 := h5.go hs6 hc6 hkl2
        replace hC9 := hC9.step hs6
        have hz6 := hC9.rs.save.size; have hw6 := hC9.rs.res.lt; clear hN hs6 h5 hc6; go_wp2_with fail; refine (hCC w6 h6).mono ?_; rintro _ w7 ⟨hs7, hc7, o2, t2, a2, m2, c2, rfl, hX7⟩; simp only at hc7 hX7
        replace hC9 := hC9.step hs7
        have hP7 : e1 = 0 -> Prs w7 g (.slice (some ⟨tb, tof, none⟩) l.length c0) l (k + 1 + n1) := fun he => by
         subst he; exact h6.go hs7 hc7 (by omega)
        have hz7 := hs7.size; clear hs7 h6 hCC; have hb8 : Below w7.heap.size w7 (w7.alloc (.cells #[.string o2, .string t2, .slice a2 m2 c2] 52)) := (Below.refl _ _).alloc (Nat.le_refl _) _; have hk8 := Cells.new w7 #[.string o2, .string t2, .slice a2 m2 c2] 52; have H8 := Lib.hid (And.intro (hC9.step (Save.of hb8)) (And.intro (PrC.below' hc7 hb8) (And.intro (fun he => (hP7 he).step hb8) (And.intro hk8 (fun he => ExpIn.below hb8 x1 _ (hX7 he)))))); clear hb8 hk8 hX7 hP7 hC9 hc7; go_wp2_with fail; obtain ⟨hC9, hc9, hP8, hk8, hX8⟩ := H8.out; clear H8; generalize w7.alloc (.cells #[.string o2, .string t2, .slice a2 m2 c2] 52) = w8 at *; have hR2 := HR2.out
        have hN : ∃ (kk : Nat) (ee : Int), Calls Tryz.prog 221 #[.pointer (some ⟨g, 0, none⟩), .string sRp] w8 (fun r w' => r = .returned (.tuple #[]) /\ PrC w' g (.slice (some ⟨tb, tof, none⟩) l.length c0) (kk : Nat) ee /\ Save g w8 w') /\ k <= kk /\
          ((ee = 0 /\ e1 = 0 /\ R = (x1, kk - k, 0)) \/ (ee ≠ 0 /\ R = (zeroX, kk - k, ee))) := by
         by_cases he : e1 = 0
         ·subst he
          have hRe2 : R = (if isS (l.drop (k + (1 + n1))) sRp = false then badX (l.drop (k + (1 + n1))) (1 + n1) else (x1, 1 + n1 + 1, 0)) := by
           rw [hR2, andX_ok (by rfl)]; rfl
          have hN := need_ok w8 g _ l (k + 1 + n1) sRp (hP8 rfl); rw [show k + (1 + n1) = k + 1 + n1 by omega] at hRe2
          by_cases s3 : isS (l.drop (k + 1 + n1)) sRp = false
          ·rw [if_pos s3, badX_e] at hRe2
           rw [s3, if_neg (by simp), if_neg (by simp)] at hN
           refine ⟨k + 1 + n1, _, hN, by omega, .inr ⟨wrE_ne _, ?_⟩⟩
           rw [hRe2, show k + 1 + n1 - k = 1 + n1 by omega]
          ·have s3t : isS (l.drop (k + 1 + n1)) sRp = true := by simpa using s3
           rw [if_neg s3] at hRe2; rw [s3t, if_pos rfl, if_pos rfl] at hN; refine ⟨k + 1 + n1 + 1, _, hN, by omega, .inl ⟨rfl, rfl, ?_⟩⟩
           rw [hRe2, show k + 1 + n1 + 1 - k = 1 + n1 + 1 by omega]
         ·rw [andX_bad (by exact he)] at hR2
          refine ⟨k + 1 + n1, e1, need_no2 w8 g _ _ e1 sRp hc9 he ⟨_, _, _, rfl⟩, by omega, .inr ⟨he, ?_⟩⟩
          rw [hR2]; exact Prod.ext rfl (Prod.ext (by simp only [upX]; omega) rfl)
        obtain ⟨kk, ee, hN, hkk, hcase⟩ := hN; refine hN.mono ?_; rintro _ w9 ⟨rfl, hc10, hs10⟩; have hk9 := hs10.cells hk8 (by omega)
        have hX9 : e1 = 0 -> ExpIn (fun b => w6.heap.size <= b) w9 x1 (expV o2 t2 (.slice a2 m2 c2)) := fun he =>
         ExpIn.move hs10.size (fun b hb hlt => hs10.2 b hlt (by omega)) (fun b hb _ => hb) x1 _ (hX8 he)
        replace hC9 := hC9.step hs10
        replace hc9 := hc10
        have HC := Lib.hid (And.intro hcase hX9); have hk9l := hk9.lt; clear hs10 hk8 hX8 hP8 hc10 hcase hX9 hN hR2 HR2; have hk9c0 := hk9.cell 0 _ rfl; have hk9f0 := hk9.frozen 0; have hk9c1 := hk9.cell 1 _ rfl; have hk9f1 := hk9.frozen 1; have hk9c2 := hk9.cell 2 _ rfl; have hk9f2 := hk9.frozen 2; clear hk9; have hres := hC9.rs.res; have hrl := hres.lt; have hfi := hC9.tok; have hfl := hfi.lt; have hgl := hc9.lt; have HR := Lib.hid (And.intro hC9 hc9); have hresc0 := hres.cell 0 _ rfl; have hresf0 := hres.frozen 0; have hresc1 := hres.cell 1 _ rfl; have hresf1 := hres.frozen 1; have hresc2 := hres.cell 2 _ rfl; have hresf2 := hres.frozen 2; have hfic0 := hfi.cell 0 _ rfl; have hfif0 := hfi.frozen 0; have hfic1 := hfi.cell 1 _ rfl; have hfif1 := hfi.frozen 1; have hfic2 := hfi.cell 2 _ rfl; have hfif2 := hfi.frozen 2; have hc9c0 := hc9.cell 0 _ rfl; have hc9f0 := hc9.frozen 0; have hc9c1 := hc9.cell 1 _ rfl; have hc9f1 := hc9.frozen 1; have hc9c2 := hc9.cell 2 _ rfl; have hc9f2 := hc9.frozen 2; clear hC9 hc9 hres hfi; go_wp2; obtain ⟨hC9, hc9⟩ := HR.out; have hR9 := hC9.rs; have hq := ((hR9.res.setI 0 (.string o2)).setI 1 (.string t2)).setI 2 (.slice a2 m2 c2); have hx := hq.cell 0 _ rfl; have hy := hq.cell 1 _ rfl; have hz := hq.cell 2 _ rfl; refine bodyPost_ret (v := .agg #[.string o2, .string t2, .slice a2 m2 c2]) (by simp [results, Tryz.results236, go_sem, hx, hy, hz]) rfl ?_
        have hS9 := hR9.fin [.string o2, .string t2, .slice a2 m2 c2]; have hP9 := hR9.prc hc9 [.string o2, .string t2, .slice a2 m2 c2]; show XP g (.slice (some ⟨tb, tof, none⟩) l.length c0) k _ w _ (setAll w9 w.heap.size 0 [.string o2, .string t2, .slice a2 m2 c2]); obtain ⟨hcase, hX9⟩ := HC.out; have hkx : k + (kk - k) = kk := by omega
        rcases hcase with ⟨he0, he1, hRR⟩ | ⟨he, hRR⟩
        ·subst he0
         rw [hRR]; exact ⟨hS9, by show PrC _ g _ ((k + (kk - k) : Nat)) 0; rw [hkx]; exact hP9, _, _, _, _, _, rfl, fun _ => ExpIn.keep (Nat.le_of_lt hw6) hw6 (hX9 he1)⟩
        ·rw [hRR]
         exact ⟨hS9, by show PrC _ g _ ((k + (kk - k) : Nat)) ee; rw [hkx]; exact hP9, _, _, _, _, _, rfl, fun h => absurd h he⟩
      ·have s2f : isS (l.drop k) sLp = false := by simpa using s2
       rw [if_neg s2, badX_e] at hR2; rw [s2f] at hI; have hw2 : wrE (l.drop k) ≠ 0 := wrE_ne _; refine hI.mono ?_; rintro _ w5 ⟨rfl, hb5⟩; have h5 := h4.step hb5
       replace hC9 := hC9.step (Save.of hb5)
       have hW := wrong_ok w5 g _ l k h5; generalize wrE (l.drop k) = ee at *; have HR2 := Lib.hid (And.intro hR2 hw2); clear hI h4 hb5 hR2 hw2 h5; go_wp2_with fail; refine hW.mono ?_; rintro _ w6 ⟨rfl, hc9, hs6⟩
       replace hC9 := hC9.step hs6
       clear hW hs6; have hres := hC9.rs.res; have hrl := hres.lt; have hfi := hC9.tok; have hfl := hfi.lt; have hgl := hc9.lt; have HR := Lib.hid (And.intro hC9 hc9); have hresc0 := hres.cell 0 _ rfl; have hresf0 := hres.frozen 0; have hresc1 := hres.cell 1 _ rfl; have hresf1 := hres.frozen 1; have hresc2 := hres.cell 2 _ rfl; have hresf2 := hres.frozen 2; have hfic0 := hfi.cell 0 _ rfl; have hfif0 := hfi.frozen 0; have hfic1 := hfi.cell 1 _ rfl; have hfif1 := hfi.frozen 1; have hfic2 := hfi.cell 2 _ rfl; have hfif2 := hfi.frozen 2; have hc9c0 := hc9.cell 0 _ rfl; have hc9f0 := hc9.frozen 0; have hc9c1 := hc9.cell 1 _ rfl; have hc9f1 := hc9.frozen 1; have hc9c2 := hc9.cell 2 _ rfl; have hc9f2 := hc9.frozen 2; clear hC9 hc9 hres hfi; go_wp2; obtain ⟨hC9, hc9⟩ := HR.out; have hR9 := hC9.rs; have hq := ((hR9.res.setI 0 (.string ⟨#[]⟩)).setI 1 (.string ⟨#[]⟩)).setI 2 (.slice none 0 0); have hx := hq.cell 0 _ rfl; have hy := hq.cell 1 _ rfl; have hz := hq.cell 2 _ rfl; refine bodyPost_ret (v := .agg #[.string ⟨#[]⟩, .string ⟨#[]⟩, .slice none 0 0]) (by simp [results, Tryz.results236, go_sem, hx, hy, hz]) rfl ?_
       have hS9 := hR9.fin [.string ⟨#[]⟩, .string ⟨#[]⟩, .slice none 0 0]; have hP9 := hR9.prc hc9 [.string ⟨#[]⟩, .string ⟨#[]⟩, .slice none 0 0]; show XP g (.slice (some ⟨tb, tof, none⟩) l.length c0) k _ w _ (setAll w6 w.heap.size 0 [.string ⟨#[]⟩, .string ⟨#[]⟩, .slice none 0 0]); rw [HR2.out.1]; exact ⟨hS9, hP9, _, _, _, _, _, rfl, fun e => absurd e HR2.out.2⟩
theorem out_no (nt : Nt) (l : List Tok) (d : Nat) : (parX 0 nt l d).2.2 = -1 := by rw [parX]
theorem all_steps : ∀ m, ChoiceC m /\ TermC m /\ TightC m /\ PostC m /\ PrimeC m /\ ManyC m := by
 intro m
 induction m using Nat.strongRecOn with
 | ind m ih =>
  cases m with
  | zero =>
   refine ⟨?_, ?_, ?_, ?_, ?_, ?_⟩
   ·intro w g lv l k d _ _ hne; exact absurd (out_no _ _ _) hne
   ·intro w g lv l k d n bp bd bt _ _ _ _ _ hne; exact absurd (out_no _ _ _) hne
   ·intro w g lv l k d _ _ hne; exact absurd (out_no _ _ _) hne
   ·intro w g lv l k d _ _ hne; exact absurd (out_no _ _ _) hne
   ·intro w g lv l k d _ _ hne; exact absurd (out_no _ _ _) hne
   ·intro w g lv l k d s _ _ _ _ hne; exact absurd (out_no _ _ _) hne
  | succ m =>
   have hm := ih m (Nat.lt_succ_self m); have hc : ∀ j, j <= m -> ChoiceC j := fun j hj => (ih j (by omega)).1
   have ht : ∀ j, j <= m -> TermC j := fun j hj => (ih j (by omega)).2.1
   exact ⟨choice_step m hm.2.1 hm.1, term_step m hm.2.2.1 ht, tight_step m hm.2.2.1 hm.2.2.2.1, post_step m hm.2.2.2.2.1 hc, prime_step m hm.2.2.2.2.2 hm.1, many_step m hc⟩
def parE (l : List Tok) : GotX := if 1000 < l.length then (zeroX, 1000, 4) else if (parX (fuelX .choice l) .choice l 0).2.2 = 0 then parX (fuelX .choice l) .choice l 0 else (zeroX, (parX (fuelX .choice l) .choice l 0).2)
theorem parE_le (l : List Tok) : (parE l).2.2 = 0 -> (parE l).2.1 <= l.length := by
 unfold parE; have hf := parX_fine (fuelX .choice l) .choice l 0 (Nat.le_refl _) (by simp only [Nt.okX])
 split
 ·intro h; cases h
 ·split
  ·intro _; exact hf.2.1
  ·next h => intro h2; exact absurd h2 h
def ParX (w : World) (r : GotX) (e : Ending) (w' : World) : Prop :=
 Below w.heap.size w w' /\ ∃ o t a n c, e = .returned (.tuple #[exV o t (.slice a n c), .int .i64 (r.2.1 : Nat), .int .i64 r.2.2]) /\ ExpIn (fun b => w.heap.size <= b) w' r.1 (expV o t (.slice a n c))
theorem exprParse_any (w : World) (lv : Value) (l : List Tok) (h : ToksAt w lv l) (ho : ∀ b, lv.ownBlock = some b -> b < w.heap.size) (hT : Tab w) (hTg : 1 < w.heap.size) (hs : l.length <= 1000000) (hsh : ∀ t ∈ l, t.text.size <= 1048576) :
  Calls Tryz.prog 162 #[lv] w (ParX w (parE l)) := by
 obtain ⟨a0, c0, rfl, hl1, hl2, -⟩ := h.len; unfold maxLen at hl2
 by_cases hbig : 1000 < l.length
 ·have hR : parE l = (zeroX, 1000, 4) := by unfold parE; rw [if_pos hbig]
  have hq := Cells.new w zeroC 52; have HR := Lib.hid hR; clear hR; go_enter Tryz.func162, Tryz.ntmps162; go_wp2; have hx := hq.cell 0 _ rfl; have hy := hq.cell 1 _ rfl; have hz := hq.cell 2 _ rfl; refine bodyPost_ret (v := .tuple #[.agg #[.string ⟨#[]⟩, .string ⟨#[]⟩, .slice none 0 0], .int .i64 1000, .int .i64 4]) (by simp [results, Tryz.results162, go_sem, hx, hy, hz]) rfl ?_
  rw [HR.out]; exact ⟨(Below.refl _ w).alloc (Nat.le_refl _) _, _, _, _, _, _, rfl, ExpIn.leaf _ _ _ _⟩
 ·have hf := parX_fine (fuelX .choice l) .choice l 0 (Nat.le_refl _) (by simp only [Nt.okX])
  have hR : parE l = if (parX (fuelX .choice l) .choice l 0).2.2 = 0 then parX (fuelX .choice l) .choice l 0 else (zeroX, (parX (fuelX .choice l) .choice l 0).2) := by unfold parE; rw [if_neg hbig]
  have hCC := (all_steps (fuelX .choice l)).1; have hne := hf.1; have hb2 : Below w.heap.size w ((w.alloc (.cells zeroC 52)).alloc (.cells #[.slice a0 l.length c0, .int .i64 0, .int .i64 0] 220)) := ((Below.refl _ w).alloc (Nat.le_refl _) _).alloc (by simp) _
  have hq2 := (Cells.new w zeroC 52).alloc (.cells #[.slice a0 l.length c0, .int .i64 0, .int .i64 0] 220); have hp2 := Cells.new (w.alloc (.cells zeroC 52)) #[.slice a0 l.length c0, .int .i64 0, .int .i64 0] 220; simp only [World.size_alloc] at hp2
  have hP2 : Prs ((w.alloc (.cells zeroC 52)).alloc (.cells #[.slice a0 l.length c0, .int .i64 0, .int .i64 0] 220)) (w.heap.size + 1) (.slice a0 l.length c0) l 0 :=
   ⟨hp2, h.below hb2 (Nat.le_refl _), fun b hb => by have := ho b hb; omega, Nat.zero_le _, hs, fun j hj => (hb2.cell hTg).trans (hT j hj), by omega, hsh⟩
  have hDD := hCC _ _ _ l 0 0 hP2 (by omega) (by rw [List.drop_zero]; exact hne)
  rw [List.drop_zero] at hDD; have hle := hf.2.1; generalize parX (fuelX .choice l) .choice l 0 = r at *; obtain ⟨x1, n1, e1⟩ := r; simp only at hR hne hle; have HR := Lib.hid hR; clear hR hCC hP2 hp2 hf; go_enter Tryz.func162, Tryz.ntmps162; go_wp2_with fail; generalize (w.alloc (.cells zeroC 52)).alloc (.cells #[.slice a0 l.length c0, .int .i64 0, .int .i64 0] 220) = w2 at *; refine hDD.mono ?_; rintro _ w3 ⟨hs3, hc3, o, t, a, n, c, rfl, hX⟩; simp only [Nat.zero_add] at hc3 hX; have hq3 := hs3.cells hq2 (by omega)
  have hz2 := hq2.lt; have hw2 := hb2.size; have HB := Lib.hid (And.intro hb2 (And.intro hs3 hX)); clear hq2 hb2 hs3 hX hDD h ho; have hql := hq3.lt; have hgl := hc3.lt; have hQ3 := Lib.hid hq3; have hC3 := Lib.hid hc3; have hq3c0 := hq3.cell 0 _ rfl; have hq3f0 := hq3.frozen 0; have hq3c1 := hq3.cell 1 _ rfl; have hq3f1 := hq3.frozen 1; have hq3c2 := hq3.cell 2 _ rfl; have hq3f2 := hq3.frozen 2; have hc3c0 := hc3.cell 0 _ rfl; have hc3f0 := hc3.frozen 0; have hc3c1 := hc3.cell 1 _ rfl; have hc3f1 := hc3.frozen 1; have hc3c2 := hc3.cell 2 _ rfl; have hc3f2 := hc3.frozen 2; clear hq3 hc3
  by_cases he : e1 = 0
  ·subst he
   go_wp2_with fail; go_region
   go_wp2; have hqq := ((((((hQ3.out.setI 0 (.string o)).setI 1 (.string t)).setI 2 (.slice a n c)).setI 0 (.string o)).setI 1 (.string t)).setI 2 (.slice a n c)).drew; have hx := hqq.cell 0 _ rfl; have hy := hqq.cell 1 _ rfl; have hz := hqq.cell 2 _ rfl; refine bodyPost_ret (v := .tuple #[.agg #[.string o, .string t, .slice a n c], .int .i64 (n1 : Nat), .int .i64 0]) (by simp [results, Tryz.results162, go_sem, hx, hy, hz]) rfl ?_
   obtain ⟨hb2, hs3, hX⟩ := HB.out; have hB9 := (setAll_below w.heap.size w.heap.size (Nat.le_refl _) [.string o, .string t, .slice a n c] 0 _ _ (setAll_below w.heap.size w.heap.size (Nat.le_refl _) [.string o, .string t, .slice a n c] 0 _ _ (hs3.chain hb2 (Nat.le_succ _)))).drew; show ParX w _ _ ((setAll (setAll w3 w.heap.size 0 [.string o, .string t, .slice a n c]) w.heap.size 0 [.string o, .string t, .slice a n c]).drew)
   have hX9 : ExpIn (fun b => w.heap.size <= b) (setAll (setAll w3 w.heap.size 0 [.string o, .string t, .slice a n c]) w.heap.size 0 [.string o, .string t, .slice a n c]) x1 (expV o t (.slice a n c)) := by
    refine ExpIn.move (P := fun b => w2.heap.size <= b) (w := w3) ?_ (fun b hb _ => ?_) (fun b hb _ => ?_) x1 _ (hX trivial)
    ·rw [setAll_size, setAll_size]; exact Nat.le_refl _
    ·rw [setAll_other _ _ _ _ _ (by omega), setAll_other _ _ _ _ _ (by omega)]
    ·show w.heap.size <= b
     omega
   rw [HR.out, if_pos trivial]; generalize setAll (setAll w3 w.heap.size 0 [.string o, .string t, .slice a n c]) w.heap.size 0 [.string o, .string t, .slice a n c] = w9 at *; exact ⟨hB9, o, t, a, n, c, rfl, ExpIn.below (Below.refl _ _).drew x1 _ hX9⟩
  ·have hen : (e1 != 0) = true := by simpa using he
   go_wp2_with fail; go_region
   go_wp2; have hqq := ((((((hQ3.out.setI 0 (.string o)).setI 1 (.string t)).setI 2 (.slice a n c)).setI 0 (.string ⟨#[]⟩)).setI 1 (.string ⟨#[]⟩)).setI 2 (.slice none 0 0)).drew; have hx := hqq.cell 0 _ rfl; have hy := hqq.cell 1 _ rfl; have hz := hqq.cell 2 _ rfl; refine bodyPost_ret (v := .tuple #[.agg #[.string ⟨#[]⟩, .string ⟨#[]⟩, .slice none 0 0], .int .i64 (n1 : Nat), .int .i64 e1]) (by simp [results, Tryz.results162, go_sem, hx, hy, hz]) rfl ?_
   obtain ⟨hb2, hs3, hX⟩ := HB.out; have hB9 := (setAll_below w.heap.size w.heap.size (Nat.le_refl _) [.string ⟨#[]⟩, .string ⟨#[]⟩, .slice none 0 0] 0 _ _ (setAll_below w.heap.size w.heap.size (Nat.le_refl _) [.string o, .string t, .slice a n c] 0 _ _ (hs3.chain hb2 (Nat.le_succ _)))).drew; show ParX w _ _ ((setAll (setAll w3 w.heap.size 0 [.string o, .string t, .slice a n c]) w.heap.size 0 [.string ⟨#[]⟩, .string ⟨#[]⟩, .slice none 0 0]).drew); rw [HR.out, if_neg he]; exact ⟨hB9, _, _, _, _, _, rfl, ExpIn.leaf _ _ _ _⟩
end Go.Proofs.YtbcdaaobbebooaaGreatDoor
namespace Go.Proofs
set_option maxRecDepth 100000
set_option maxHeartbeats 20000000
open Go.Shelf
def Tryz.lays161_ren : Go.Shelf.Ren := ⟨fun | 161 => 179 | 231 => 204 | 227 => 186 | 233 => 205 | 235 => 206 | 228 => 198 | 197 => 225 | 151 => 211 | 260 => 235 | 152 => 196 | 137 => 87 | 119 => 224 | 224 => 214 | 225 => 213 | 217 => 121 | 266 => 151 | n => n, fun | 9 => 9 | 4 => 4 | 3 => 3 | 5 => 5 | 117 => 211 | 116 => 210 | 0 => 0 | 124 => 214 | 105 => 228 | 21 => 21 | 119 => 236 | 46 => 167 | 139 => 239 | 138 => 238 | n => n, fun | 3 => 4 | 4 => 5 | n => n⟩
theorem Tryz.lays161 : Go.Proofs.Lays.n161 Tryz.prog Tryz.lays161_ren := {
 mixed := by kernel_rfl
 f119 := Tryz.func224.trans (congrArg some (by kernel_rfl))
 f137 := Tryz.func87.trans (congrArg some (by kernel_rfl))
 f151 := Tryz.func211.trans (congrArg some (by kernel_rfl))
 f152 := Tryz.func196.trans (congrArg some (by kernel_rfl))
 f161 := Tryz.func179.trans (congrArg some (by kernel_rfl))
 f197 := Tryz.func225.trans (congrArg some (by kernel_rfl))
 f217 := Tryz.func121.trans (congrArg some (by kernel_rfl))
 f224 := Tryz.func214.trans (congrArg some (by kernel_rfl))
 f225 := Tryz.func213.trans (congrArg some (by kernel_rfl))
 f227 := Tryz.func186.trans (congrArg some (by kernel_rfl))
 f228 := Tryz.func198.trans (congrArg some (by kernel_rfl))
 f231 := Tryz.func204.trans (congrArg some (by kernel_rfl))
 f233 := Tryz.func205.trans (congrArg some (by kernel_rfl))
 f235 := Tryz.func206.trans (congrArg some (by kernel_rfl))
 f260 := Tryz.func235.trans (congrArg some (by kernel_rfl))
 f266 := Tryz.func151.trans (congrArg some (by kernel_rfl))
 t0 := Tryz.underlying0
 a0 := Tryz.isAgg0
 z0 := Tryz.sizeOf0
 v0 := Tryz.zeroValue0
 t3 := Tryz.underlying3
 a3 := Tryz.isAgg3
 z3 := Tryz.sizeOf3
 v3 := Tryz.zeroValue3
 t4 := Tryz.underlying4
 a4 := Tryz.isAgg4
 z4 := Tryz.sizeOf4
 v4 := Tryz.zeroValue4
 t5 := Tryz.underlying5
 a5 := Tryz.isAgg5
 z5 := Tryz.sizeOf5
 v5 := Tryz.zeroValue5
 t9 := Tryz.underlying9
 a9 := Tryz.isAgg9
 z9 := Tryz.sizeOf9
 v9 := Tryz.zeroValue9
 t21 := Tryz.underlying21
 a21 := Tryz.isAgg21
 z21 := Tryz.sizeOf21
 v21 := Tryz.zeroValue21
 t46 := Tryz.underlying167
 a46 := Tryz.isAgg167
 z46 := Tryz.sizeOf167
 v46 := Tryz.zeroValue167
 t105 := Tryz.underlying228
 a105 := Tryz.isAgg228
 z105 := Tryz.sizeOf228
 v105 := Tryz.zeroValue228
 t116 := Tryz.underlying210
 a116 := Tryz.isAgg210
 z116 := Tryz.sizeOf210
 t117 := Tryz.underlying211
 a117 := Tryz.isAgg211
 z117 := Tryz.sizeOf211
 v117 := Tryz.zeroValue211
 t119 := Tryz.underlying236
 a119 := Tryz.isAgg236
 z119 := Tryz.sizeOf236
 t124 := Tryz.underlying214
 a124 := Tryz.isAgg214
 z124 := Tryz.sizeOf214
 v124 := Tryz.zeroValue214
 t138 := Tryz.underlying238
 a138 := Tryz.isAgg238
 z138 := Tryz.sizeOf238
 v138 := Tryz.zeroValue238
 t139 := Tryz.underlying239
 a139 := Tryz.isAgg239
 z139 := Tryz.sizeOf239
 v139 := Tryz.zeroValue239
 g3 := by kernel_rfl
 g4 := by kernel_rfl }
open Go.RowKit in
theorem Tryz.strings_TrimLeft_one (s : ByteArray) (c : UInt8) (hc : c.toNat < 128) (w : World) :
  Calls Tryz.prog 179 #[.string s, .string ⟨#[c]⟩] w fun e w' => e = .returned (.string ⟨(Lib.trimLeftB s.data.toList c).toArray⟩) /\ w' = w := Any.strings_TrimLeft_one Tryz.lays161 s c hc w
def Tryz.lays162_ren : Go.Shelf.Ren := ⟨fun | 162 => 159 | 232 => 185 | 227 => 186 | 234 => 187 | 236 => 188 | 228 => 198 | 271 => 210 | 151 => 211 | 120 => 228 | 197 => 225 | 152 => 196 | 260 => 235 | 137 => 87 | 119 => 224 | 224 => 214 | 225 => 213 | 217 => 121 | 266 => 151 | n => n, fun | 9 => 9 | 4 => 4 | 3 => 3 | 5 => 5 | 117 => 211 | 116 => 210 | 0 => 0 | 124 => 214 | 21 => 21 | 105 => 228 | 46 => 167 | 119 => 236 | 139 => 239 | 138 => 238 | n => n, fun | 3 => 4 | 4 => 5 | n => n⟩
theorem Tryz.lays162 : Go.Proofs.Lays.n162 Tryz.prog Tryz.lays162_ren := {
 mixed := by kernel_rfl
 f119 := Tryz.func224.trans (congrArg some (by kernel_rfl))
 f120 := Tryz.func228.trans (congrArg some (by kernel_rfl))
 f137 := Tryz.func87.trans (congrArg some (by kernel_rfl))
 f151 := Tryz.func211.trans (congrArg some (by kernel_rfl))
 f152 := Tryz.func196.trans (congrArg some (by kernel_rfl))
 f162 := Tryz.func159.trans (congrArg some (by kernel_rfl))
 f197 := Tryz.func225.trans (congrArg some (by kernel_rfl))
 f217 := Tryz.func121.trans (congrArg some (by kernel_rfl))
 f224 := Tryz.func214.trans (congrArg some (by kernel_rfl))
 f225 := Tryz.func213.trans (congrArg some (by kernel_rfl))
 f227 := Tryz.func186.trans (congrArg some (by kernel_rfl))
 f228 := Tryz.func198.trans (congrArg some (by kernel_rfl))
 f232 := Tryz.func185.trans (congrArg some (by kernel_rfl))
 f234 := Tryz.func187.trans (congrArg some (by kernel_rfl))
 f236 := Tryz.func188.trans (congrArg some (by kernel_rfl))
 f260 := Tryz.func235.trans (congrArg some (by kernel_rfl))
 f266 := Tryz.func151.trans (congrArg some (by kernel_rfl))
 f271 := Tryz.func210.trans (congrArg some (by kernel_rfl))
 t0 := Tryz.underlying0
 a0 := Tryz.isAgg0
 z0 := Tryz.sizeOf0
 v0 := Tryz.zeroValue0
 t3 := Tryz.underlying3
 a3 := Tryz.isAgg3
 z3 := Tryz.sizeOf3
 v3 := Tryz.zeroValue3
 t4 := Tryz.underlying4
 a4 := Tryz.isAgg4
 z4 := Tryz.sizeOf4
 v4 := Tryz.zeroValue4
 t5 := Tryz.underlying5
 a5 := Tryz.isAgg5
 z5 := Tryz.sizeOf5
 v5 := Tryz.zeroValue5
 t9 := Tryz.underlying9
 a9 := Tryz.isAgg9
 z9 := Tryz.sizeOf9
 v9 := Tryz.zeroValue9
 t21 := Tryz.underlying21
 a21 := Tryz.isAgg21
 z21 := Tryz.sizeOf21
 v21 := Tryz.zeroValue21
 t46 := Tryz.underlying167
 a46 := Tryz.isAgg167
 z46 := Tryz.sizeOf167
 v46 := Tryz.zeroValue167
 t105 := Tryz.underlying228
 a105 := Tryz.isAgg228
 z105 := Tryz.sizeOf228
 v105 := Tryz.zeroValue228
 t116 := Tryz.underlying210
 a116 := Tryz.isAgg210
 z116 := Tryz.sizeOf210
 t117 := Tryz.underlying211
 a117 := Tryz.isAgg211
 z117 := Tryz.sizeOf211
 v117 := Tryz.zeroValue211
 t119 := Tryz.underlying236
 a119 := Tryz.isAgg236
 z119 := Tryz.sizeOf236
 t124 := Tryz.underlying214
 a124 := Tryz.isAgg214
 z124 := Tryz.sizeOf214
 v124 := Tryz.zeroValue214
 t138 := Tryz.underlying238
 a138 := Tryz.isAgg238
 z138 := Tryz.sizeOf238
 v138 := Tryz.zeroValue238
 t139 := Tryz.underlying239
 a139 := Tryz.isAgg239
 z139 := Tryz.sizeOf239
 v139 := Tryz.zeroValue239
 g3 := by kernel_rfl
 g4 := by kernel_rfl }
open Go.RowKit in
theorem Tryz.strings_TrimRight_one (s : ByteArray) (c : UInt8) (hc : c.toNat < 128) (w : World) (hs : s.size <= 9223372036854775807) :
  Calls Tryz.prog 159 #[.string s, .string ⟨#[c]⟩] w fun e w' => e = .returned (.string ⟨(Lib.trimRightB s.data.toList c).toArray⟩) /\ w' = w := Any.strings_TrimRight_one Tryz.lays162 s c hc w hs
def Tryz.lays137_ren : Go.Shelf.Ren := ⟨fun | 137 => 87 | 217 => 121 | 266 => 151 | n => n, fun | 9 => 9 | 5 => 5 | 3 => 3 | n => n, fun | n => n⟩
theorem Tryz.lays137 : Go.Proofs.Lays.n137 Tryz.prog Tryz.lays137_ren := {
 mixed := by kernel_rfl
 f137 := Tryz.func87.trans (congrArg some (by kernel_rfl))
 f217 := Tryz.func121.trans (congrArg some (by kernel_rfl))
 f266 := Tryz.func151.trans (congrArg some (by kernel_rfl))
 t3 := Tryz.underlying3
 a3 := Tryz.isAgg3
 z3 := Tryz.sizeOf3
 v3 := Tryz.zeroValue3
 t5 := Tryz.underlying5
 a5 := Tryz.isAgg5
 z5 := Tryz.sizeOf5
 v5 := Tryz.zeroValue5
 t9 := Tryz.underlying9
 a9 := Tryz.isAgg9
 z9 := Tryz.sizeOf9
 v9 := Tryz.zeroValue9 }
open Go.RowKit in
theorem Tryz.strings_IndexByte (s : ByteArray) (c : Int) (w : World) :
  Calls Tryz.prog 87 #[.string s, .int .u8 c] w fun e w' => e = .returned (.int .i64 (Lib.indexByte s.data.toList c.toNat.toUInt8)) /\ w' = w := Any.strings_IndexByte Tryz.lays137 s c w
def Tryz.lays103_ren : Go.Shelf.Ren := ⟨fun | 103 => 177 | 210 => 203 | 206 => 158 | n => n, fun | 9 => 9 | 4 => 4 | 24 => 205 | 3 => 3 | n => n, fun | n => n⟩
theorem Tryz.lays103 : Go.Proofs.Lays.n103 Tryz.prog Tryz.lays103_ren := {
 mixed := by kernel_rfl
 f103 := Tryz.func177.trans (congrArg some (by kernel_rfl))
 f206 := Tryz.func158.trans (congrArg some (by kernel_rfl))
 f210 := Tryz.func203.trans (congrArg some (by kernel_rfl))
 t3 := Tryz.underlying3
 a3 := Tryz.isAgg3
 z3 := Tryz.sizeOf3
 v3 := Tryz.zeroValue3
 t4 := Tryz.underlying4
 a4 := Tryz.isAgg4
 z4 := Tryz.sizeOf4
 v4 := Tryz.zeroValue4
 t9 := Tryz.underlying9
 a9 := Tryz.isAgg9
 z9 := Tryz.sizeOf9
 v9 := Tryz.zeroValue9
 t24 := Tryz.underlying205
 a24 := Tryz.isAgg205
 z24 := Tryz.sizeOf205
 v24 := Tryz.zeroValue205 }
open Go.RowKit in
theorem Tryz.strings_CutPrefix (s p : ByteArray) (w : World) :
  Calls Tryz.prog 177 #[.string s, .string p] w fun e w' => e = .returned (.tuple #[.string ⟨(Lib.trimPrefix s.data.toList p.data.toList).toArray⟩, .bool (Lib.hasPrefix s.data.toList p.data.toList)]) /\ w' = w := Any.strings_CutPrefix Tryz.lays103 s p w
def Tryz.laysM316_ren : Go.Shelf.Ren := ⟨fun | 316 => 207 | n => n, fun | 9 => 9 | 3 => 3 | 4 => 4 | 37 => 67 | 0 => 0 | 127 => 111 | 5 => 5 | n => n, fun | n => n⟩
theorem Tryz.laysM316 : Go.Proofs.LaysM.n316 Tryz.prog Tryz.laysM316_ren := {
 mixed := by kernel_rfl
 f316 := Tryz.func207.trans (congrArg some (by kernel_rfl))
 t0 := Tryz.underlying0
 a0 := Tryz.isAgg0
 z0 := Tryz.sizeOf0
 v0 := Tryz.zeroValue0
 t3 := Tryz.underlying3
 a3 := Tryz.isAgg3
 z3 := Tryz.sizeOf3
 v3 := Tryz.zeroValue3
 t4 := Tryz.underlying4
 a4 := Tryz.isAgg4
 z4 := Tryz.sizeOf4
 v4 := Tryz.zeroValue4
 t9 := Tryz.underlying9
 a9 := Tryz.isAgg9
 z9 := Tryz.sizeOf9
 v9 := Tryz.zeroValue9
 t37 := Tryz.underlying67
 a37 := Tryz.isAgg67
 z37 := Tryz.sizeOf67
 v37 := Tryz.zeroValue67
 t127 := Tryz.underlying111
 a127 := Tryz.isAgg111
 z127 := Tryz.sizeOf111
 v127 := Tryz.zeroValue111
 t5 := Tryz.underlying5
 a5 := Tryz.isAgg5
 z5 := Tryz.sizeOf5
 v5 := Tryz.zeroValue5
 i0 := by kernel_rfl
 i3 := by kernel_rfl
 i4 := by kernel_rfl
 i5 := by kernel_rfl
 i9 := by kernel_rfl
 i37 := by kernel_rfl
 i127 := by kernel_rfl }
open Go.RowKit in
theorem Tryz.stringslite_Clone (s : ByteArray) (w : World) (hlim : s.size <= 281474976710656) :
  Calls Tryz.prog 207 #[.string s] w fun e w' => e = .returned (.string s) /\ Below w.heap.size w w' := Any.stringslite_Clone Tryz.laysM316 s w hlim
def Tryz.lays143_ren : Go.Shelf.Ren := ⟨fun | 143 => 161 | 219 => 191 | 217 => 121 | 225 => 213 | 224 => 214 | 267 => 215 | 266 => 151 | 314 => 229 | n => n, fun | 9 => 9 | 3 => 3 | 4 => 4 | 5 => 5 | 46 => 167 | 146 => 195 | 51 => 194 | n => n, fun | 1 => 2 | n => n⟩
theorem Tryz.lays143 : Go.Proofs.Lays.n143 Tryz.prog Tryz.lays143_ren := {
 mixed := by kernel_rfl
 f143 := Tryz.func161.trans (congrArg some (by kernel_rfl))
 f217 := Tryz.func121.trans (congrArg some (by kernel_rfl))
 f219 := Tryz.func191.trans (congrArg some (by kernel_rfl))
 f224 := Tryz.func214.trans (congrArg some (by kernel_rfl))
 f225 := Tryz.func213.trans (congrArg some (by kernel_rfl))
 f266 := Tryz.func151.trans (congrArg some (by kernel_rfl))
 f267 := Tryz.func215.trans (congrArg some (by kernel_rfl))
 f314 := Tryz.func229.trans (congrArg some (by kernel_rfl))
 t3 := Tryz.underlying3
 a3 := Tryz.isAgg3
 z3 := Tryz.sizeOf3
 v3 := Tryz.zeroValue3
 t4 := Tryz.underlying4
 a4 := Tryz.isAgg4
 z4 := Tryz.sizeOf4
 v4 := Tryz.zeroValue4
 t5 := Tryz.underlying5
 a5 := Tryz.isAgg5
 z5 := Tryz.sizeOf5
 v5 := Tryz.zeroValue5
 t9 := Tryz.underlying9
 a9 := Tryz.isAgg9
 z9 := Tryz.sizeOf9
 v9 := Tryz.zeroValue9
 t46 := Tryz.underlying167
 a46 := Tryz.isAgg167
 z46 := Tryz.sizeOf167
 v46 := Tryz.zeroValue167
 t51 := Tryz.underlying194
 a51 := Tryz.isAgg194
 z51 := Tryz.sizeOf194
 v51 := Tryz.zeroValue194
 t146 := Tryz.underlying195
 a146 := Tryz.isAgg195
 z146 := Tryz.sizeOf195
 v146 := Tryz.zeroValue195
 g1 := by kernel_rfl }
open Go.RowKit Go.Lib in
theorem Tryz.strings_Index (s sub : ByteArray) (m : Int) (w : World) (hs : s.size < 4294967281) (hm : w.cell? ⟨2, 0, none⟩ = some (.int .i64 m)) :
  Calls Tryz.prog 161 #[.string s, .string sub] w fun e w' => e = .returned (.int .i64 (Lib.index s.data.toList sub.data.toList)) /\ w' = w := Any.strings_Index Tryz.lays143 s sub m w hs hm
open Go.RowKit Go.Lib in
def Tryz.lays99_ren : Go.Shelf.Ren := ⟨fun | 99 => 127 | 206 => 158 | n => n, fun | 9 => 9 | 4 => 4 | 3 => 3 | n => n, fun | n => n⟩
theorem Tryz.lays99 : Go.Proofs.Lays.n99 Tryz.prog Tryz.lays99_ren := {
 mixed := by kernel_rfl
 f99 := Tryz.func127.trans (congrArg some (by kernel_rfl))
 f206 := Tryz.func158.trans (congrArg some (by kernel_rfl))
 t3 := Tryz.underlying3
 a3 := Tryz.isAgg3
 z3 := Tryz.sizeOf3
 v3 := Tryz.zeroValue3
 t4 := Tryz.underlying4
 a4 := Tryz.isAgg4
 z4 := Tryz.sizeOf4
 v4 := Tryz.zeroValue4
 t9 := Tryz.underlying9
 a9 := Tryz.isAgg9
 z9 := Tryz.sizeOf9
 v9 := Tryz.zeroValue9 }
open Go.RowKit Go.Lib in
theorem Tryz.strings_HasPrefix (s p : ByteArray) (w : World) :
  Calls Tryz.prog 127 #[.string s, .string p] w fun e w' => e = .returned (.bool (Lib.hasPrefix s.data.toList p.data.toList)) /\ w' = w := Any.strings_HasPrefix Tryz.lays99 s p w
open Go.RowKit Go.Lib in
def Tryz.lays153_ren : Go.Shelf.Ren := ⟨fun | 153 => 166 | 152 => 196 | 226 => 197 | 227 => 186 | 228 => 198 | 137 => 87 | 119 => 224 | 224 => 214 | 225 => 213 | 217 => 121 | 266 => 151 | n => n, fun | 9 => 9 | 3 => 3 | 4 => 4 | 5 => 5 | 21 => 21 | 117 => 211 | 116 => 210 | 0 => 0 | 46 => 167 | 124 => 214 | n => n, fun | n => n⟩
theorem Tryz.lays153 : Go.Proofs.Lays.n153 Tryz.prog Tryz.lays153_ren := {
 mixed := by kernel_rfl
 f119 := Tryz.func224.trans (congrArg some (by kernel_rfl))
 f137 := Tryz.func87.trans (congrArg some (by kernel_rfl))
 f152 := Tryz.func196.trans (congrArg some (by kernel_rfl))
 f153 := Tryz.func166.trans (congrArg some (by kernel_rfl))
 f217 := Tryz.func121.trans (congrArg some (by kernel_rfl))
 f224 := Tryz.func214.trans (congrArg some (by kernel_rfl))
 f225 := Tryz.func213.trans (congrArg some (by kernel_rfl))
 f226 := Tryz.func197.trans (congrArg some (by kernel_rfl))
 f227 := Tryz.func186.trans (congrArg some (by kernel_rfl))
 f228 := Tryz.func198.trans (congrArg some (by kernel_rfl))
 f266 := Tryz.func151.trans (congrArg some (by kernel_rfl))
 t0 := Tryz.underlying0
 a0 := Tryz.isAgg0
 z0 := Tryz.sizeOf0
 v0 := Tryz.zeroValue0
 t3 := Tryz.underlying3
 a3 := Tryz.isAgg3
 z3 := Tryz.sizeOf3
 v3 := Tryz.zeroValue3
 t4 := Tryz.underlying4
 a4 := Tryz.isAgg4
 z4 := Tryz.sizeOf4
 v4 := Tryz.zeroValue4
 t5 := Tryz.underlying5
 a5 := Tryz.isAgg5
 z5 := Tryz.sizeOf5
 v5 := Tryz.zeroValue5
 t9 := Tryz.underlying9
 a9 := Tryz.isAgg9
 z9 := Tryz.sizeOf9
 v9 := Tryz.zeroValue9
 t21 := Tryz.underlying21
 a21 := Tryz.isAgg21
 z21 := Tryz.sizeOf21
 v21 := Tryz.zeroValue21
 t46 := Tryz.underlying167
 a46 := Tryz.isAgg167
 z46 := Tryz.sizeOf167
 v46 := Tryz.zeroValue167
 t116 := Tryz.underlying210
 a116 := Tryz.isAgg210
 z116 := Tryz.sizeOf210
 t117 := Tryz.underlying211
 a117 := Tryz.isAgg211
 z117 := Tryz.sizeOf211
 v117 := Tryz.zeroValue211
 t124 := Tryz.underlying214
 a124 := Tryz.isAgg214
 z124 := Tryz.sizeOf214
 v124 := Tryz.zeroValue214 }
open Go.RowKit Go.Lib in
theorem Tryz.strings_IndexAny_laid (s chars : ByteArray) (w : World) (hs : s.size < 4294967281) (hcs : chars.size < 4294967281) (has : ∀ (j : Nat) b, s.data.toList[j]? = some b -> b.toNat < 128) (hac : ∀ (j : Nat) b, chars.data.toList[j]? = some b -> b.toNat < 128) :
  Calls Tryz.prog 166 #[.string s, .string chars] w fun e w' => e = .returned (.int .i64 (Lib.indexAny s.data.toList chars.data.toList)) /\ Below w.heap.size w w' := Any.strings_IndexAny_laid Tryz.lays153 (by kernel_rfl) s chars w hs hcs has hac
open Go.RowKit Go.Lib in
def Tryz.lays105_ren : Go.Shelf.Ren := ⟨fun | 105 => 111 | 212 => 144 | 99 => 127 | 165 => 145 | 166 => 113 | 170 => 146 | 169 => 43 | 263 => 170 | 264 => 171 | 206 => 158 | 240 => 147 | 241 => 172 | 276 => 173 | 277 => 201 | n => n, fun | 9 => 9 | 3 => 3 | 4 => 4 | 20 => 20 | 0 => 0 | 46 => 167 | 109 => 168 | 5 => 5 | 72 => 69 | 76 => 150 | 51 => 194 | 146 => 195 | 53 => 197 | 148 => 198 | 70 => 66 | 37 => 67 | 75 => 149 | 127 => 111 | 164 => 200 | 80 => 75 | n => n, fun | n => n⟩
theorem Tryz.lays105 : Go.Proofs.Lays.n105 Tryz.prog Tryz.lays105_ren := {
 mixed := by kernel_rfl
 f99 := Tryz.func127.trans (congrArg some (by kernel_rfl))
 f105 := Tryz.func111.trans (congrArg some (by kernel_rfl))
 f165 := Tryz.func145.trans (congrArg some (by kernel_rfl))
 f166 := Tryz.func113.trans (congrArg some (by kernel_rfl))
 f169 := Tryz.func43.trans (congrArg some (by kernel_rfl))
 f170 := Tryz.func146.trans (congrArg some (by kernel_rfl))
 f206 := Tryz.func158.trans (congrArg some (by kernel_rfl))
 f212 := Tryz.func144.trans (congrArg some (by kernel_rfl))
 f240 := Tryz.func147.trans (congrArg some (by kernel_rfl))
 f241 := Tryz.func172.trans (congrArg some (by kernel_rfl))
 f263 := Tryz.func170.trans (congrArg some (by kernel_rfl))
 f264 := Tryz.func171.trans (congrArg some (by kernel_rfl))
 f276 := Tryz.func173.trans (congrArg some (by kernel_rfl))
 f277 := Tryz.func201.trans (congrArg some (by kernel_rfl))
 t0 := Tryz.underlying0
 a0 := Tryz.isAgg0
 z0 := Tryz.sizeOf0
 v0 := Tryz.zeroValue0
 t3 := Tryz.underlying3
 a3 := Tryz.isAgg3
 z3 := Tryz.sizeOf3
 v3 := Tryz.zeroValue3
 t4 := Tryz.underlying4
 a4 := Tryz.isAgg4
 z4 := Tryz.sizeOf4
 v4 := Tryz.zeroValue4
 t5 := Tryz.underlying5
 a5 := Tryz.isAgg5
 z5 := Tryz.sizeOf5
 v5 := Tryz.zeroValue5
 t9 := Tryz.underlying9
 a9 := Tryz.isAgg9
 z9 := Tryz.sizeOf9
 v9 := Tryz.zeroValue9
 t20 := Tryz.underlying20
 a20 := Tryz.isAgg20
 z20 := Tryz.sizeOf20
 v20 := Tryz.zeroValue20
 t37 := Tryz.underlying67
 a37 := Tryz.isAgg67
 z37 := Tryz.sizeOf67
 v37 := Tryz.zeroValue67
 t46 := Tryz.underlying167
 a46 := Tryz.isAgg167
 z46 := Tryz.sizeOf167
 v46 := Tryz.zeroValue167
 t51 := Tryz.underlying194
 a51 := Tryz.isAgg194
 z51 := Tryz.sizeOf194
 v51 := Tryz.zeroValue194
 t53 := Tryz.underlying197
 a53 := Tryz.isAgg197
 z53 := Tryz.sizeOf197
 v53 := Tryz.zeroValue197
 t70 := Tryz.underlying66
 a70 := Tryz.isAgg66
 z70 := Tryz.sizeOf66
 v70 := Tryz.zeroValue66
 t72 := Tryz.underlying69
 a72 := Tryz.isAgg69
 z72 := Tryz.sizeOf69
 v72 := Tryz.zeroValue69
 t75 := Tryz.underlying149
 a75 := Tryz.isAgg149
 z75 := Tryz.sizeOf149
 v75 := Tryz.zeroValue149
 t76 := Tryz.underlying150
 a76 := Tryz.isAgg150
 z76 := Tryz.sizeOf150
 v76 := Tryz.zeroValue150
 t109 := Tryz.underlying168
 a109 := Tryz.isAgg168
 z109 := Tryz.sizeOf168
 v109 := Tryz.zeroValue168
 t127 := Tryz.underlying111
 a127 := Tryz.isAgg111
 z127 := Tryz.sizeOf111
 v127 := Tryz.zeroValue111
 t146 := Tryz.underlying195
 a146 := Tryz.isAgg195
 z146 := Tryz.sizeOf195
 v146 := Tryz.zeroValue195
 t148 := Tryz.underlying198
 a148 := Tryz.isAgg198
 z148 := Tryz.sizeOf198
 v148 := Tryz.zeroValue198
 t164 := Tryz.underlying200
 a164 := Tryz.isAgg200
 z164 := Tryz.sizeOf200
 v164 := Tryz.zeroValue200 }
theorem Tryz.Builder_Extra_105 : Builder.Extra Tryz.prog Tryz.lays105_ren := {
 sizeBuilder := by kernel_rfl
 liesBuilder := by kernel_rfl
 t5 := Tryz.underlying5
 a5 := Tryz.isAgg5
 z5 := Tryz.sizeOf5
 v5 := Tryz.zeroValue5
 infoByte := by kernel_rfl
 cellsByte := by kernel_rfl
 sizeByte := by kernel_rfl
 neB5 := by decide }
open Go.RowKit Go.Lib in
theorem Tryz.strings_Repeat (s : ByteArray) (c : Nat) (w : World) (hc : c <= 9223372036854775807) (hlen : s.size * c <= 140737488355328) :
  Calls Tryz.prog 111 #[.string s, .int .i64 c] w fun e w' => e = .returned (.string ⟨(Lib.repeatL s.data.toList c).toArray⟩) /\ Below w.heap.size w w' := Any.strings_Repeat Tryz.lays105 Tryz.Builder_Extra_105 s c w hc hlen
end Go.Proofs
namespace Go.Proofs.YtbcdaaobbebooaaGreatDoor
set_option maxRecDepth 100000
set_option maxHeartbeats 20000000
open Go.RowKit Go.Tab
theorem letter_any (c : UInt8) (w : World) : Calls Tryz.prog 122 #[.int .u8 c.toNat] w fun e w' => e = .returned (.bool (letB c)) /\ w = w' := by
 have hL : letB c = (decide (65 <= c.toNat /\ c.toNat <= 90) || (decide (97 <= c.toNat /\ c.toNat <= 122) || decide (c.toNat = 95))) := rfl
 generalize letB c = b at hL; generalize c.toNat = n at hL
 have hr : ((n < 65 \/ (65 <= n /\ 90 < n /\ n < 95) \/ (65 <= n /\ 90 < n /\ n = 96) \/ (65 <= n /\ 90 < n /\ 97 <= n /\ 122 < n)) /\ b = false) \/ (((65 <= n /\ n <= 90) \/ (65 <= n /\ 90 < n /\ 97 <= n /\ n <= 122) \/ (65 <= n /\ 90 < n /\ n < 97 /\ n = 95)) /\ b = true) := by
  cases b with
  | false =>
   have h := hL.symm; simp only [Bool.or_eq_false_iff, decide_eq_false_iff_not] at h
   left
   exact ⟨by omega, rfl⟩
  | true =>
   have h := hL.symm; simp only [Bool.or_eq_true, decide_eq_true_eq] at h
   right
   exact ⟨by omega, rfl⟩
 clear hL; rcases hr with ⟨(h | ⟨h1, h2, h3⟩ | ⟨h1, h2, rfl⟩ | ⟨h1, h2, h3, h4⟩), rfl⟩ | ⟨(⟨h1, h2⟩ | ⟨h1, h2, h3, h4⟩ | ⟨h1, h2, h3, rfl⟩), rfl⟩
 all_goals
  go_enter Tryz.func122, Tryz.ntmps122; go_wp2; go_ret; first
  | exact ⟨rfl, rfl⟩
  | exact ⟨ret_bool (by simp only [ne_eq, Bool.or_eq_false_iff, Bool.or_eq_true, decide_eq_false_iff_not, decide_eq_true_eq, beq_eq_false_iff_ne, beq_iff_eq]; omega), rfl⟩
theorem digit_any (c : UInt8) (w : World) : Calls Tryz.prog 124 #[.int .u8 c.toNat] w fun e w' => e = .returned (.bool (dg c)) /\ w = w' := by
 have hL : dg c = decide (48 <= c.toNat /\ c.toNat <= 57) := rfl; generalize dg c = b at hL; generalize c.toNat = n at hL
 have hr : ((n < 48 \/ (48 <= n /\ 57 < n)) /\ b = false) \/ ((48 <= n /\ n <= 57) /\ b = true) := by
  cases b with
  | false =>
   have h := hL.symm; simp only [decide_eq_false_iff_not] at h
   left
   exact ⟨by omega, rfl⟩
  | true =>
   have h := hL.symm; simp only [decide_eq_true_eq] at h
   right
   exact ⟨by omega, rfl⟩
 clear hL; rcases hr with ⟨(h | ⟨h1, h2⟩), rfl⟩ | ⟨⟨h1, h2⟩, rfl⟩
 all_goals
  go_enter Tryz.func124, Tryz.ntmps124; go_wp2; go_ret; first
  | exact ⟨rfl, rfl⟩
  | exact ⟨ret_bool (by simp only [ne_eq, Bool.or_eq_false_iff, Bool.or_eq_true, decide_eq_false_iff_not, decide_eq_true_eq, beq_eq_false_iff_ne, beq_iff_eq]; omega), rfl⟩
theorem idN_step (l : Bs) (k : Nat) (h : k < l.length) : idN (l.drop k) = if idB l[k] then idN (l.drop (k + 1)) + 1 else 0 := by
 rw [List.drop_eq_getElem_cons h, idN]
theorem ident_any (s : ByteArray) (w : World) (hs : s.size <= maxLen) (h0 : 0 < s.size) :
  Calls Tryz.prog 123 #[.string s] w fun e w' => e = .returned (.int .i64 ((1 + idN (s.data.toList.drop 1) : Nat) : Int)) /\ w = w' := by
 unfold maxLen at hs; generalize hq : idN (s.data.toList.drop 1) = q; have HQ := Lib.hid hq; clear hq; go_enter Tryz.func123, Tryz.ntmps123; go_wp2_with fail; go_loop [3] (fun n => ∃ k : Nat, n = .int .i64 (k : Int) /\ 1 <= k /\ k <= s.size /\ k + idN (s.data.toList.drop k) = 1 + q) (fun n => s.size - (intOf n).toNat)
 case atStart => exact ⟨1, rfl, Nat.le_refl _, h0, by rw [HQ.out]⟩
 case round =>
  obtain ⟨k, rfl, hk1, hk, hI⟩ := hrel
  by_cases hlt : k < s.size
  ·have hst := idN_step s.data.toList k (by rw [<- size_list]; exact hlt)
   rw [hst] at hI; have hLe := letter_any (s[k]'hlt); have hDi := digit_any (s[k]'hlt); have hid : idB (s[k]'hlt) = (letB (s[k]'hlt) || dg (s[k]'hlt)) := rfl
   rw [<- get_list hlt, hid] at hI; clear hst hid
   cases hb : letB (s[k]'hlt) with
   | true =>
    rw [hb] at hI hLe; simp only [Bool.true_or, if_true] at hI; have HI := Lib.hid hI; clear hI hb hDi; go_wp2_with fail; refine (hLe _).mono ?_; rintro _ _ ⟨rfl, rfl⟩; go_wp2; go_round
    case rel => exact ⟨k + 1, by go_num, by omega, by omega, by have := HI.out; omega⟩
    case measure => simp [intOf]; omega
   | false =>
    rw [hb] at hI hLe
    cases hd : dg (s[k]'hlt) with
    | true =>
     rw [hd] at hI hDi; simp only [Bool.or_true, if_true] at hI; have HI := Lib.hid hI; clear hI hb hd; go_wp2_with fail; refine (hLe _).mono ?_; rintro _ _ ⟨rfl, rfl⟩; go_wp2_with fail; refine (hDi _).mono ?_; rintro _ _ ⟨rfl, rfl⟩; go_wp2; go_round
     case rel => exact ⟨k + 1, by go_num, by omega, by omega, by have := HI.out; omega⟩
     case measure => simp [intOf]; omega
    | false =>
     rw [hd] at hI hDi; simp only [Bool.or_false, Bool.false_eq_true, if_false] at hI; have HI := Lib.hid hI; clear hI hb hd; go_wp2_with fail; refine (hLe _).mono ?_; rintro _ _ ⟨rfl, rfl⟩; go_wp2_with fail; refine (hDi _).mono ?_; rintro _ _ ⟨rfl, rfl⟩; go_wp2; go_ret; exact ⟨ret_num (by have := HI.out; omega), rfl⟩
  ·obtain rfl : k = s.size := by omega
   have he : idN (s.data.toList.drop s.size) = 0 := by rw [size_list, List.drop_length]; rfl
   rw [he] at hI; have HI := Lib.hid hI; clear hI he; go_wp2; go_ret; exact ⟨ret_num (by have := HI.out; omega), rfl⟩
end Go.Proofs.YtbcdaaobbebooaaGreatDoor
namespace Go.Proofs.YtbcdaaobbebooaaGreatDoor
set_option maxRecDepth 100000
set_option maxHeartbeats 20000000
open Go.RowKit Go.Tab Go.Shelf
attribute [local go_sem] Oper.semAt_some
def badC (x : Nat × Nat) : Bool := decide (x.2 < 32) && x.2 != 9
def wthV : Option (Nat × Int) -> Value
 | none => .tuple #[.int .i64 0, .int .i64 0]
 | some x => .tuple #[.int .i64 (x.1 : Nat), .int .i64 x.2]
def WiI (w : World) (pre : List (Nat × Nat)) (W : World) : Prop :=
 ((∀ x ∈ pre, badC x = false) /\ Cells W w.heap.size #[.int .i64 0] 3 /\ Cells W (w.heap.size + 1) #[.int .i64 0] 26) /\ Below w.heap.size w W
def WiX (w : World) (c : Code) (pre : List (Nat × Nat)) (W : World) : Prop :=
 (c = .ret /\ ∃ d x, pre = d ++ [x] /\ (∀ x ∈ d, badC x = false) /\ badC x = true /\ Cells W w.heap.size #[.int .i64 (x.1 : Nat)] 3 /\ Cells W (w.heap.size + 1) #[.int .i64 3] 26) /\ Below w.heap.size w W
theorem cells_own {A B : World} {row : Option Nat} {g : Nat} {cs : Array Value} {t : TypeId} (h : Cells A g cs t) (hg : A.grownBy B row) (hr : ∀ r, row = some r -> ∃ o : Obj, A.heap[r]? = some o /\ o.isCells = false) : Cells B g cs t :=
 h.kept hg (fun e' => by
  obtain ⟨o, ho, hc⟩ := hr _ e'.symm
  rw [show A.heap[g]? = _ from h] at ho; cases ho; cases hc)
theorem WiI_own (w : World) (L : Nat) (hL : w.heap.size <= L) : OwnFrom L (WiI w) :=
 OwnFrom.and (Own.from (fun pre A B row hs hg' hr => ⟨hs.1, cells_own hs.2.1 hg' hr, cells_own hs.2.2 hg' hr⟩) _) (ownFrom_below (Nat.le_refl _) hL)
theorem WiX_own (w : World) (L : Nat) (hL : w.heap.size <= L) (c : Code) : OwnFrom L (WiX w c) :=
 OwnFrom.and (Own.from (fun pre A B row hs hg' hr => by
  obtain ⟨h1, d, x, h2, h3, h4, h5, h6⟩ := hs
  exact ⟨h1, d, x, h2, h3, h4, cells_own h5 hg' hr, cells_own h6 hg' hr⟩) _) (ownFrom_below (Nat.le_refl _) hL)
theorem wth_none {l : Bs} (h : ∀ x ∈ (scan (nb l) 0).1, badC x = false) : wth l = match (scan (nb l) 0).2 with
  | some a => some (a, 7)
  | none => none := by
 unfold wth
 have : (scan (nb l) 0).1.find? (fun x => decide (x.2 < 32) && x.2 != 9) = none := by
  rw [List.find?_eq_none]; intro x hx; have := h x hx; unfold badC at this; rw [this]; simp
 rw [this]; rfl
theorem wth_some {l : Bs} {d : List (Nat × Nat)} {x : Nat × Nat} (h : d ++ [x] <+: (scan (nb l) 0).1) (h1 : ∀ x ∈ d, badC x = false) (h2 : badC x = true) : wth l = some (x.1, 3) := by
 unfold wth
 have : (scan (nb l) 0).1.find? (fun x => decide (x.2 < 32) && x.2 != 9) = some x := by
  obtain ⟨t, ht⟩ := h; rw [<- ht, List.append_assoc, List.find?_append, List.find?_append]
  have hd : d.find? (fun x => decide (x.2 < 32) && x.2 != 9) = none := by
   rw [List.find?_eq_none]; intro y hy; have := h1 y hy; unfold badC at this; rw [this]; simp
  rw [hd]; unfold badC at h2; simp only [List.find?_cons, h2]; rfl
 rw [this]
theorem good_snoc {pre : List (Nat × Nat)} {x : Nat × Nat} (h : ∀ x ∈ pre, badC x = false) (hx : badC x = false) : ∀ y ∈ pre ++ [x], badC y = false := by
 intro y hy; rcases List.mem_append.1 hy with hy | hy
 ·exact h y hy
 ·simp at hy; subst hy; exact hx
theorem Cells.putObj {W : World} {g D : Nat} {cs : Array Value} {t : TypeId} {o o' : Obj} (h : Cells W g cs t) (hK : W.heap[D]? = some o) (ho : o.isCells = false) : Cells (W.putObj D o') g cs t := by
 have hne : g ≠ D := by
  rintro rfl; rw [show W.heap[g]? = _ from h] at hK; cases hK; cases ho
 exact (World.putObj_heap_other hne).trans h
theorem keeps_two {W : World} {B a b : Nat} {u v : Value} (ha : a < B) (hb : b < B) : KeepsFrom B W ((W.setCell ⟨a, 0, none⟩ u).setCell ⟨b, 0, none⟩ v) :=
 ⟨by simp [World.setCell], fun k o hk ho _ => (Below.heap_setCell _ _ _ _ (by show k ≠ b; omega)).trans ((Below.heap_setCell _ _ _ _ (by show k ≠ a; omega)).trans ho)⟩
theorem within_any (s : ByteArray) (w : World) (hs : s.size <= 1048576) (hT : Tab w) :
  Calls Tryz.prog 160 #[.string s] w fun e w' => e = .returned (wthV (wth s.data.toList)) /\ Below w.heap.size w w' := by
 refine (callsIn_wide (n := 9)).1 ?_; refine callsIn_of_wp_marks Tryz.func160 rfl trivial ?_ rfl; simp only [Tryz.ntmps160, List.size_toArray, List.length_cons, List.length_nil, Nat.reduceAdd, Nat.reduceSub, Array.replicate_succ, Array.replicate_zero, List.push_toArray, List.append_toArray, List.nil_append, List.cons_append]; have HA := Lib.hid (uAll_any s ((w.alloc (.cells #[.int .i64 0] 3)).alloc (.cells #[.int .i64 0] 26)))
 gi_wp2
 refine ⟨trivial, (callsIn_wide.2 HA.out).mono ?_⟩; rintro e w1 ⟨rfl, hw1⟩
 have hb1 : Below (w.heap.size + 2) ((w.alloc (.cells #[.int .i64 0] 3)).alloc (.cells #[.int .i64 0] 26)) w1 := by
  rw [hw1]; exact (Below.refl _ _).alloc (by simp) _
 have hz : w1.heap.size = w.heap.size + 3 := by rw [hw1]; simp
 have hcB : w1.cell? ⟨w.heap.size + 2, 0, none⟩ = some (.string s) := by
  have h := World.cell?_alloc_new (w := (w.alloc (.cells #[.int .i64 0] 3)).alloc (.cells #[.int .i64 0] 26)) #[.string s] 9 0; simp only [World.size_alloc] at h; rw [hw1]; exact h
 have c2 : Cells w1 w.heap.size #[.int .i64 0] 3 := ((Cells.new w _ _).alloc _).below hb1 (by omega)
 have c3 : Cells w1 (w.heap.size + 1) #[.int .i64 0] 26 := by
  have h := (Cells.new (w.alloc (.cells #[.int .i64 0] 3)) #[.int .i64 0] 26).below hb1 (by simp)
  simpa using h
 have hB0 : Below w.heap.size w w1 := (((Below.refl _ w).alloc (Nat.le_refl _) _).alloc (by simp) _).trans (hb1.mono (by omega))
 have hT1 := hT.below hB0 hT.pos; have h0w := hT.pos; clear HA hw1; simp only [World.size_alloc]
 gi_wp2
 have hwL : w.heap.size <= w1.heap.size := by omega
 refine wpIn_rangeFunc_ownG rfl (by omega) (gf := 212) (lb := #[.pointer (some ⟨w.heap.size + 2, 0, none⟩)]) rfl trivial (enters_of Tryz.func212 (by kernel_rfl) rfl)
  (uAll_stops 8 (by omega) (w.heap.size + 2) s (by omega) w1 (by omega) hcB hT1) TwoKept.trans (TwoKept.put (w.heap.size + 2) w1 (by omega) (by omega)) (Below.refl _ _) (fun _ => rfl)
  (WiI w) (WiX w) (WiI_own _ _ hwL) (WiX_own _ _ hwL)
  ⟨⟨by simp, c2, c3⟩, hB0⟩
  (fun x => { tmps := #[.string s, undef, .pointer (some ⟨w.heap.size, 0, none⟩), .pointer (some ⟨w.heap.size + 1, 0, none⟩), .int .i64 (x.1 : Nat), .int .i64 (x.2 : Nat), undef, .string s, .func (.func 212) #[] #[.pointer (some ⟨w.heap.size + 2, 0, none⟩)], .int .i64 (x.1 : Nat), .int .i64 (x.2 : Nat), undef, undef, undef, undef, undef, undef, undef, undef, undef, undef, undef, undef], defers := [] }) ?assign ?body ?done ?stop
 case assign =>
  intro l x W K hK
  gi_wp2
  exact hK
 case body =>
  rintro l0 pre x W ⟨⟨hgood, hc2, hc3⟩, hB⟩ hlt; have hl2 := hc2.lt; have hl3 := hc3.lt
  by_cases hx : x.2 < 32 /\ x.2 ≠ 9
  ·have d1 : decide ((x.2 : Int) < 32) = true := by rw [decide_eq_true_eq]; omega
   have d2 : ((x.2 : Int) != 9) = true := by rw [bne_iff_ne]; omega
   have hbx : badC x = true := by simp [badC, hx.1, hx.2]
   have HX := Lib.hid hbx; have HG := Lib.hid hgood; clear hx hgood hbx; have hc2c0 := hc2.cell 0 _ rfl; have hc2f0 := hc2.frozen 0; have hc3c0 := hc3.cell 0 _ rfl; have hc3f0 := hc3.frozen 0
   gi_wp2
   exact ⟨keeps_two (by omega) (by omega), ⟨rfl, pre, x, rfl, HG.out, HX.out, (hc2.setI 0 _).setOther _ _ (by show w.heap.size + 1 ≠ w.heap.size; omega), (hc3.setOther _ _ (by show w.heap.size ≠ w.heap.size + 1; omega)).setI 0 _⟩, (hB.setCell (Nat.le_refl _) _).setCell (by show w.heap.size <= w.heap.size + 1; omega) _⟩
  ·have hbx : badC x = false := by
    simp only [badC, Bool.and_eq_false_iff, decide_eq_false_iff_not, bne_eq_false_iff_eq]; omega
   have HX := Lib.hid hbx; have HG := Lib.hid hgood; have hr : 32 <= x.2 \/ x.2 = 9 := by omega
   clear hx hgood hbx; rcases hr with hr | hr
   ·have d1 : decide ((x.2 : Int) < 32) = false := by rw [decide_eq_false_iff_not]; omega
    gi_wp2
    exact ⟨KeepsFrom.refl _ _, TwoKept.refl _ _, ⟨good_snoc HG.out HX.out, hc2, hc3⟩, hB⟩
   ·have d1 : decide ((x.2 : Int) < 32) = true := by rw [decide_eq_true_eq]; omega
    have d2 : ((x.2 : Int) != 9) = false := by rw [bne_eq_false_iff_eq]; omega
    gi_wp2
    exact ⟨KeepsFrom.refl _ _, TwoKept.refl _ _, ⟨good_snoc HG.out HX.out, hc2, hc3⟩, hB⟩
 case done =>
  rintro D ys W hD rfl ⟨⟨hgood, hc2, hc3⟩, hB⟩ hK; have hTW := hT.below hB hT.pos; have hBa := Bad_any s W hTW (by omega)
  have hW := wth_none (l := s.data.toList) hgood; have hl2 := hc2.lt; have hl3 := hc3.lt; rw [show nb s.data.toList = bs s from rfl] at hW
  cases ho : (scan (bs s) 0).2 with
  | none =>
   rw [ho] at hBa hW; have HW := Lib.hid hW; clear hW hgood ho; simp only [badV] at hBa; have hc2c0 := hc2.cell 0 _ rfl; have hc2f0 := hc2.frozen 0; have hc3c0 := hc3.cell 0 _ rfl; have hc3f0 := hc3.frozen 0
   gi_wp2
   refine ⟨trivial, (callsIn_wide.2 hBa).mono ?_⟩; rintro e w3 ⟨rfl, rfl⟩
   gi_wp2
   have hK2 : ((W.setCell ⟨w.heap.size, 0, none⟩ (.int .i64 0)).setCell ⟨w.heap.size + 1, 0, none⟩ (.int .i64 0)).heap[D]? = some (Obj.deferred (some [])) := (Below.heap_setCell _ _ _ _ (by show D ≠ w.heap.size + 1; omega)).trans ((Below.heap_setCell _ _ _ _ (by show D ≠ w.heap.size; omega)).trans hK)
   refine ⟨by simp, .inl ⟨_, _, rfl, run_takeDeferred hK2, ?_⟩⟩
   have e2 := (((hc2.setI 0 (.int .i64 0)).setOther ⟨w.heap.size + 1, 0, none⟩ (.int .i64 0) (by show w.heap.size + 1 ≠ w.heap.size; omega)).putObj (o' := .deferred none) hK2 rfl).cell 0 _ rfl
   have e3 := (((hc3.setOther ⟨w.heap.size, 0, none⟩ (.int .i64 0) (by show w.heap.size ≠ w.heap.size + 1; omega)).setI 0 (.int .i64 0)).putObj (o' := .deferred none) hK2 rfl).cell 0 _ rfl
   refine ⟨wthV none, by simp [results, Tryz.results160, go_sem, wthV, e2, e3], by rw [HW.out], ?_⟩
   exact ((hB.setCell (p := ⟨w.heap.size, 0, none⟩) (Nat.le_refl _) _).setCell (p := ⟨w.heap.size + 1, 0, none⟩) (by show w.heap.size <= w.heap.size + 1; omega) _).trans (belowK_b (w := w) (Nat.le_refl _) _ D _ _ (by omega) hK2 rfl rfl)
  | some a =>
   rw [ho] at hBa hW; have HW := Lib.hid hW; clear hW hgood ho; simp only [badV] at hBa; have hc2c0 := hc2.cell 0 _ rfl; have hc2f0 := hc2.frozen 0; have hc3c0 := hc3.cell 0 _ rfl; have hc3f0 := hc3.frozen 0
   gi_wp2
   refine ⟨trivial, (callsIn_wide.2 hBa).mono ?_⟩; rintro e w3 ⟨rfl, rfl⟩
   gi_wp2
   have hK2 : ((W.setCell ⟨w.heap.size, 0, none⟩ (.int .i64 (a : Int))).setCell ⟨w.heap.size + 1, 0, none⟩ (.int .i64 7)).heap[D]? = some (Obj.deferred (some [])) := (Below.heap_setCell _ _ _ _ (by show D ≠ w.heap.size + 1; omega)).trans ((Below.heap_setCell _ _ _ _ (by show D ≠ w.heap.size; omega)).trans hK)
   refine ⟨by simp, .inl ⟨_, _, rfl, run_takeDeferred hK2, ?_⟩⟩
   have e2 := (((hc2.setI 0 (.int .i64 (a : Int))).setOther ⟨w.heap.size + 1, 0, none⟩ (.int .i64 7) (by show w.heap.size + 1 ≠ w.heap.size; omega)).putObj (o' := .deferred none) hK2 rfl).cell 0 _ rfl
   have e3 := (((hc3.setOther ⟨w.heap.size, 0, none⟩ (.int .i64 (a : Int)) (by show w.heap.size ≠ w.heap.size + 1; omega)).setI 0 (.int .i64 7)).putObj (o' := .deferred none) hK2 rfl).cell 0 _ rfl
   refine ⟨wthV (some (a, 7)), by simp [results, Tryz.results160, go_sem, wthV, e2, e3], by rw [HW.out], ?_⟩
   exact ((hB.setCell (p := ⟨w.heap.size, 0, none⟩) (Nat.le_refl _) _).setCell (p := ⟨w.heap.size + 1, 0, none⟩) (by show w.heap.size <= w.heap.size + 1; omega) _).trans (belowK_b (w := w) (Nat.le_refl _) _ D _ _ (by omega) hK2 rfl rfl)
 case stop =>
  rintro D c pre W hD hpre ⟨⟨rfl, d, x, rfl, h1, h2, hc2, hc3⟩, hB⟩ hK; have hW := wth_some (l := s.data.toList) hpre h1 h2; have hl2 := hc2.lt; have hl3 := hc3.lt; have hc2c0 := hc2.cell 0 _ rfl; have hc2f0 := hc2.frozen 0; have hc3c0 := hc3.cell 0 _ rfl; have hc3f0 := hc3.frozen 0
  gi_wp2
  refine ⟨by simp, .inl ⟨_, _, rfl, run_takeDeferred hK, ?_⟩⟩
  have e2 := (hc2.putObj (o' := .deferred none) hK rfl).cell 0 _ rfl; have e3 := (hc3.putObj (o' := .deferred none) hK rfl).cell 0 _ rfl; refine ⟨wthV (some (x.1, 3)), by simp [results, Tryz.results160, go_sem, wthV, e2, e3], by rw [hW], ?_⟩
  exact hB.trans (belowK_b (w := w) (Nat.le_refl _) W D _ _ (by omega) hK rfl rfl)
end Go.Proofs.YtbcdaaobbebooaaGreatDoor
namespace Go.Proofs.YtbcdaaobbebooaaGreatDoor
set_option maxRecDepth 100000
set_option maxHeartbeats 20000000
theorem idxAny_none {ch : Bs} : ∀ {l : Bs}, (∀ x ∈ l, ch.contains x = false) -> Lib.indexAny l ch = -1
 | [], _ => rfl
 | b :: l, h => by
  rw [Lib.indexAny, h b (List.mem_cons_self ..), idxAny_none (fun x hx => h x (List.mem_cons_of_mem _ hx))]; rfl
theorem idxAny_at {ch : Bs} {m : UInt8} {t : Bs} (hm : ch.contains m = true) : ∀ {l : Bs}, (∀ x ∈ l, ch.contains x = false) -> Lib.indexAny (l ++ m :: t) ch = l.length
 | [], _ => by rw [List.nil_append, Lib.indexAny, if_pos hm]; rfl
 | b :: l, h => by
  rw [List.cons_append, Lib.indexAny, h b (List.mem_cons_self ..), idxAny_at hm (fun x hx => h x (List.mem_cons_of_mem _ hx))]; have : (((l.length : Nat) : Int) == -1) = false := by rw [beq_eq_false_iff_ne]; omega
  rw [this]; simp
theorem idxB_none {c : UInt8} : ∀ {l : Bs}, (∀ x ∈ l, x ≠ c) -> Lib.indexByte l c = -1
 | [], _ => rfl
 | b :: l, h => by
  have h1 : (b == c) = false := by rw [beq_eq_false_iff_ne]; exact h b (List.mem_cons_self ..)
  rw [Lib.indexByte, h1, idxB_none (fun x hx => h x (List.mem_cons_of_mem _ hx))]; rfl
theorem idxB_at {c : UInt8} {t : Bs} : ∀ {l : Bs}, (∀ x ∈ l, x ≠ c) -> Lib.indexByte (l ++ c :: t) c = l.length
 | [], _ => by rw [List.nil_append, Lib.indexByte, if_pos (by simp)]; rfl
 | b :: l, h => by
  have h1 : (b == c) = false := by rw [beq_eq_false_iff_ne]; exact h b (List.mem_cons_self ..)
  rw [List.cons_append, Lib.indexByte, h1, idxB_at (fun x hx => h x (List.mem_cons_of_mem _ hx))]; have : (((l.length : Nat) : Int) == -1) = false := by rw [beq_eq_false_iff_ne]; omega
  rw [this]; simp
def frontT (ip fr : Bs) : Bs := ip ++ (if fr = [] then [] else 46 :: fr)
section
variable {l : Bs} {neg : Bool} {ip fr mk sg pw : Bs}
theorem NumTxt.eq' (h : NumTxt l neg ip fr mk sg pw) : l = (if neg then [45] else []) ++ (frontT ip fr ++ (mk ++ (sg ++ pw))) := by
 rw [frontT, List.append_assoc]; exact h.eq
theorem NumTxt.front_mem (h : NumTxt l neg ip fr mk sg pw) {x : UInt8} (hx : x ∈ frontT ip fr) : dg x = true \/ x = 46 := by
 rw [frontT, List.mem_append] at hx; rcases hx with hx | hx
 ·exact .inl (List.all_eq_true.1 h.dip x hx)
 ·by_cases hf : fr = []
  ·rw [if_pos hf] at hx; simp at hx
  ·rw [if_neg hf] at hx
   rcases List.mem_cons.1 hx with rfl | hx
   ·exact .inr rfl
   ·exact .inl (List.all_eq_true.1 h.dfr x hx)
theorem NumTxt.front_any (h : NumTxt l neg ip fr mk sg pw) : ∀ x ∈ frontT ip fr, ([101, 69] : Bs).contains x = false := by
 intro x hx
 have h3 : x ≠ 101 /\ x ≠ 69 := by
  rcases h.front_mem hx with h1 | rfl
  ·exact ⟨dg_ne h1 (by decide), dg_ne h1 (by decide)⟩
  ·decide
 simp [h3.1, h3.2]
theorem NumTxt.cut (h : NumTxt l neg ip fr mk sg pw) : Lib.hasPrefix l [45] = neg /\ Lib.trimPrefix l [45] = frontT ip fr ++ (mk ++ (sg ++ pw)) := by
 have he := h.eq'
 have hm : neg = false -> Lib.hasPrefix l [45] = false := by
  intro hn; subst hn; rw [he]; have hi := h.ip0; have hd := h.dip; rw [frontT]
  cases ip with
  | nil => exact absurd rfl hi
  | cons c p =>
   have hc := all_head hd (c := c) rfl; show ([45] : Bs).isPrefixOf (c :: _) = false; have : ((45 : UInt8) == c) = false := by rw [beq_eq_false_iff_ne]; exact (dg_ne hc (by decide)).symm
   simp [List.isPrefixOf, this]
 cases neg with
 | true =>
  have : Lib.hasPrefix l [45] = true := by rw [he]; rfl
  exact ⟨this, by rw [Lib.trimPrefix, if_pos this, he]; rfl⟩
 | false =>
  have := hm rfl; exact ⟨this, by rw [Lib.trimPrefix, this, he]; rfl⟩
theorem NumTxt.mark_none (h : NumTxt l neg ip fr mk sg pw) (hm : mk = []) : Lib.indexAny (frontT ip fr ++ (mk ++ (sg ++ pw))) [101, 69] = -1 /\ frontT ip fr ++ (mk ++ (sg ++ pw)) = frontT ip fr /\ powP sg pw = 0 := by
 rcases h.exp with ⟨rfl, rfl, rfl⟩ | ⟨hm2, _, _⟩
 ·simp only [List.append_nil]
  exact ⟨idxAny_none h.front_any, trivial, rfl⟩
 ·subst hm; simp at hm2
theorem NumTxt.mark_some (h : NumTxt l neg ip fr mk sg pw) (hm : mk ≠ []) : Lib.indexAny (frontT ip fr ++ (mk ++ (sg ++ pw))) [101, 69] = (frontT ip fr).length /\ (∃ m, mk = [m]) /\ (sg = [] \/ sg = [43] \/ sg = [45]) /\ pw ≠ [] := by
 rcases h.exp with ⟨rfl, _, _⟩ | ⟨hm2, hs, hp⟩
 ·exact absurd rfl hm
 ·rcases hm2 with rfl | rfl
  ·exact ⟨idxAny_at rfl h.front_any, ⟨_, rfl⟩, hs, hp⟩
  ·exact ⟨idxAny_at rfl h.front_any, ⟨_, rfl⟩, hs, hp⟩
theorem NumTxt.point_none (h : NumTxt l neg ip fr mk sg pw) (hf : fr = []) : Lib.indexByte (frontT ip fr) 46 = -1 /\ frontT ip fr = ip ++ fr := by
 subst hf; have : frontT ip [] = ip := by simp [frontT]
 rw [this]; exact ⟨idxB_none (fun x hx => dg_ne (List.all_eq_true.1 h.dip x hx) (by decide)), by simp⟩
theorem NumTxt.point_some (h : NumTxt l neg ip fr mk sg pw) (hf : fr ≠ []) : Lib.indexByte (frontT ip fr) 46 = ip.length /\ frontT ip fr = ip ++ 46 :: fr := by
 have : frontT ip fr = ip ++ 46 :: fr := by rw [frontT, if_neg hf]
 rw [this]; exact ⟨idxB_at (fun x hx => dg_ne (List.all_eq_true.1 h.dip x hx) (by decide)), rfl⟩
theorem NumTxt.len (h : NumTxt l neg ip fr mk sg pw) : ip.length + fr.length <= l.length /\ (frontT ip fr ++ (mk ++ (sg ++ pw))).length <= l.length /\ (frontT ip fr).length <= l.length /\ (fr ≠ [] -> (frontT ip fr).length = ip.length + fr.length + 1) := by
 have he := congrArg List.length h.eq'
 have hf : (frontT ip fr).length = ip.length + (if fr = [] then 0 else fr.length + 1) := by
  rw [frontT, List.length_append]; split <;> simp
 rw [List.length_append] at he; have h2 : (frontT ip fr ++ (mk ++ (sg ++ pw))).length = (frontT ip fr).length + (mk ++ (sg ++ pw)).length := by rw [List.length_append]
 refine ⟨?_, by omega, by omega, fun h3 => ?_⟩
 ·by_cases hfr : fr = []
  ·subst hfr; simp at hf ⊢; omega
  ·rw [if_neg hfr] at hf; omega
 ·rw [hf, if_neg h3]; omega
theorem NumTxt.ascii (h : NumTxt l neg ip fr mk sg pw) : ∀ x ∈ frontT ip fr ++ (mk ++ (sg ++ pw)), x.toNat < 128 := by
 have hall : ∀ {a : Bs}, a.all dg = true -> ∀ x ∈ a, x.toNat < 128 := fun ha x hx => by have := dg_lt (List.all_eq_true.1 ha x hx); omega
 intro x hx; rcases List.mem_append.1 hx with hx | hx
 ·rcases h.front_mem hx with h1 | rfl
  ·have := dg_lt h1; omega
  ·decide
 ·rcases List.mem_append.1 hx with hx | hx
  ·rcases h.exp with ⟨rfl, rfl, rfl⟩ | ⟨hm, hs, hp⟩
   ·simp at hx
   ·rcases hm with rfl | rfl <;> (simp at hx; subst hx; decide)
  ·rcases List.mem_append.1 hx with hx | hx
   ·rcases h.exp with ⟨rfl, rfl, rfl⟩ | ⟨hm, hs, hp⟩
    ·simp at hx
    ·rcases hs with rfl | rfl | rfl
     ·simp at hx
     ·simp at hx; subst hx; decide
     ·simp at hx; subst hx; decide
   ·exact hall h.dpw x hx
end
end Go.Proofs.YtbcdaaobbebooaaGreatDoor
namespace Go.Proofs.YtbcdaaobbebooaaGreatDoor
set_option maxRecDepth 100000
set_option maxHeartbeats 20000000
open Go.RowKit Go.Tab
def TabS (w : World) : Prop := ∀ j : Nat, j < 63 -> w.cell? ⟨3, j, none⟩ = some (.int .i64 (stepsN.getD j 9 : Nat))
theorem TabS.below {w w' : World} {B : Nat} (h : TabS w) (hb : Below B w w') (hB : 3 < B) : TabS w' := fun j hj => (hb.cell hB).trans (h j hj)
theorem TabS.pos {w : World} (h : TabS w) : 3 < w.heap.size := World.block_lt_of_cell? w _ (h 0 (by decide))
theorem u8_nb {c : UInt8} {n : UInt8} (h : c ≠ n) {m : Int} (hm : (n.toNat : Int) = m) : ((c.toNat : Int) == m) = false := by
 rw [beq_eq_false_iff_ne, <- hm]; exact fun e => h (UInt8.toNat_inj.1 (by omega))
theorem signOf_any (c : UInt8) (w : World) : Calls Tryz.prog 175 #[.int .u8 c.toNat] w fun e w' => e = .returned (.int .i64 (signN c : Nat)) /\ w = w' := by
 unfold signN
 by_cases h1 : c = 45
 ·subst h1
  go_enter Tryz.func175, Tryz.ntmps175; go_wp2; go_ret; exact ⟨rfl, rfl⟩
 have d1 := u8_nb h1 (m := 45) rfl
 by_cases h2 : c = 43
 ·subst h2
  go_enter Tryz.func175, Tryz.ntmps175; go_wp2; go_ret; exact ⟨rfl, rfl⟩
 have d2 := u8_nb h2 (m := 43) rfl
 by_cases h3 : c = 48
 ·subst h3
  go_enter Tryz.func175, Tryz.ntmps175; go_wp2; go_ret; exact ⟨rfl, rfl⟩
 have d3 := u8_nb h3 (m := 48) rfl; rw [if_neg h1, if_neg h2, if_neg h3]
 by_cases h4 : 49 <= c.toNat /\ c.toNat <= 57
 ·rw [if_pos h4]
  go_enter Tryz.func175, Tryz.ntmps175; go_wp2; go_ret; exact ⟨rfl, rfl⟩
 rw [if_neg h4]; have H4 : c.toNat < 49 \/ (49 <= c.toNat /\ 57 < c.toNat) := by omega
 clear h4
 by_cases h5 : c = 46
 ·subst h5
  clear H4; go_enter Tryz.func175, Tryz.ntmps175; go_wp2; go_ret; exact ⟨rfl, rfl⟩
 have d5 := u8_nb h5 (m := 46) rfl; rw [if_neg h5]
 by_cases h6 : c = 101
 ·subst h6
  clear H4; go_enter Tryz.func175, Tryz.ntmps175; go_wp2; go_ret; exact ⟨rfl, rfl⟩
 by_cases h7 : c = 69
 ·subst h7
  clear H4; go_enter Tryz.func175, Tryz.ntmps175; go_wp2; go_ret; exact ⟨rfl, rfl⟩
 have d6 := u8_nb h6 (m := 101) rfl; have d7 := u8_nb h7 (m := 69) rfl; rw [if_neg (by simp [h6, h7])]
 clear h1 h2 h3 h5 h6 h7; rcases H4 with h4 | ⟨h4, h8⟩
 all_goals
  go_enter Tryz.func175, Tryz.ntmps175; go_wp2; go_ret; exact ⟨rfl, rfl⟩
theorem whole_yes (st : Nat) (w : World) (h : wholeB st = true) : Calls Tryz.prog 176 #[.int .i64 st] w fun e w' => e = .returned (.bool true) /\ w = w' := by
 have h1 : st = 2 \/ st = 3 \/ st = 5 \/ st = 8 := by simpa [wholeB] using h
 clear h; rcases h1 with rfl | rfl | rfl | rfl
 all_goals
  go_enter Tryz.func176, Tryz.ntmps176; go_wp2; go_ret; exact ⟨rfl, rfl⟩
theorem whole_no (st : Nat) (w : World) (h : wholeB st = false) (hs : st < 9) : Calls Tryz.prog 176 #[.int .i64 st] w fun e w' => e = .returned (.bool false) /\ w = w' := by
 have h1 : st = 0 \/ st = 1 \/ st = 4 \/ st = 6 \/ st = 7 := by
  have h2 : ¬ (st = 2 \/ st = 3 \/ st = 5 \/ st = 8) := by
   intro h3; have : wholeB st = true := by simpa [wholeB] using h3
   rw [h] at this; cases this
  omega
 clear h hs; rcases h1 with rfl | rfl | rfl | rfl | rfl
 all_goals
  go_enter Tryz.func176, Tryz.ntmps176; go_wp2; go_ret; exact ⟨rfl, rfl⟩
theorem stepN_le : ∀ st : Fin 9, ∀ sg : Fin 7, stepN st.val sg.val <= 9 := by decide
theorem signN_lt (c : UInt8) : signN c < 7 := by cases sort6 c <;> omega
theorem drop_at {s : ByteArray} {k : Nat} (h : k < s.size) : s.data.toList.drop k = s[k]'h :: s.data.toList.drop (k + 1) := by
 rw [List.drop_eq_getElem_cons (by simpa using h)]
 rfl
theorem Scan_any (s : ByteArray) (w : World) (hT : TabS w) (hs : s.size <= maxLen) :
  Calls Tryz.prog 152 #[.string s] w fun e w' => e = .returned (.int .i64 (scanN s.data.toList : Nat)) /\ ∃ n, w' = w.drewN n := by
 unfold maxLen at hs; go_enter Tryz.func152, Tryz.ntmps152; go_wp2_with fail; go_loopw [3, 4, 8] (fun g t i wr => ∃ k st L : Nat, k <= s.size /\ i = .int .i64 k /\ t = .int .i64 st /\ g = .int .i64 L /\ st < 9 /\ autoS st k L (s.data.toList.drop k) = scanN s.data.toList /\ ∃ n, wr = w.drewN n) (fun _ _ i _ => s.size - (intOf i).toNat)
 case atStart => exact ⟨0, 0, 0, Nat.zero_le _, rfl, rfl, rfl, by decide, auto_scan _, 0, rfl⟩
 case round =>
  obtain ⟨k, st, L, hk, rfl, rfl, rfl, hst, ha, n, rfl⟩ := hrel; have HA := Lib.hid ha; clear ha
  by_cases hlt : k < s.size
  ·have hsg := signN_lt (s[k]'hlt)
   have hF := signOf_any (s[k]'hlt); have hi : (st : Int) < 9 := by omega
   have hj : ((signN (s[k]'hlt) : Nat) : Int) < 7 := by omega
   have hc : w.cell? ⟨3, st * 7 + signN (s[k]'hlt), none⟩ = some (.int .i64 (stepN st (signN (s[k]'hlt)) : Nat)) := by rw [Nat.mul_comm]; exact hT _ (by omega)
   have hA := HA.out; rw [drop_at hlt, auto_cons] at hA; have hle := stepN_le ⟨st, hst⟩ ⟨_, hsg⟩; simp only at hle; generalize signN (s[k]'hlt) = sg at hF hc hA hle hsg hj; generalize stepN st sg = st' at hc hA hle; go_wp2_with fail
   by_cases h9 : st' = 9
   ·rw [if_pos h9] at hA
    have HL := Lib.hid hA; have d9 : ((st' : Int) == 9) = true := by rw [beq_iff_eq]; omega
    clear hA h9 hle; go_quiet (exact (hF _).mono fun _ _ h => ⟨h.1, _, h.2.symm⟩)
    go_wp2; go_ret; exact ⟨by rw [<- HL.out]; rfl, _, rfl⟩
   ·rw [if_neg h9] at hA
    have d9 : ((st' : Int) == 9) = false := by rw [beq_eq_false_iff_ne]; omega
    have hlt9 : st' < 9 := by omega
    clear h9 hle
    by_cases hw : wholeB st' = true
    ·rw [if_pos hw] at hA
     have HL := Lib.hid hA; have hW := fun W => whole_yes st' W hw; clear hA hw; go_quiet (exact (hF _).mono fun _ _ h => ⟨h.1, _, h.2.symm⟩)
     go_wp2_with ((with_reducible refine (hW _).mono ?_); rintro _ _ ⟨rfl, rfl⟩)
     go_roundw
     case rel => exact ⟨k + 1, st', k + 1, by omega, by go_num, rfl, by go_num, hlt9, HL.out, _, rfl⟩
     case measure => simp [intOf]; omega
    ·have hw' : wholeB st' = false := by simpa using hw
     rw [if_neg hw] at hA; have HL := Lib.hid hA; have hW := fun W => whole_no st' W hw' hlt9; clear hA hw hw'; go_quiet (exact (hF _).mono fun _ _ h => ⟨h.1, _, h.2.symm⟩)
     go_wp2_with ((with_reducible refine (hW _).mono ?_); rintro _ _ ⟨rfl, rfl⟩)
     go_roundw
     case rel => exact ⟨k + 1, st', L, by omega, by go_num, rfl, rfl, hlt9, HL.out, _, rfl⟩
     case measure => simp [intOf]; omega
  ·obtain rfl : k = s.size := by omega
   have hl : s.data.toList.drop s.size = [] := by
    rw [List.drop_eq_nil_iff]; exact Nat.le_refl _
   have hA := HA.out; rw [hl] at hA; have HL := Lib.hid (show L = scanN s.data.toList from hA); clear hA HA hl; go_wp2; go_ret; exact ⟨by rw [<- HL.out]; rfl, _, rfl⟩
end Go.Proofs.YtbcdaaobbebooaaGreatDoor
