/- Texts of this claim, one behind the other: ExN, ExO, BrB, BrC, Shf, LxA, LxB. -/
import Derived.Test.YtjlikcfabekhlaaGreatDoorMgb
import Derived.Test.YtjlikcfabekhlaaGreatDoorMgc
import Derived.Test.YtjlikcfabekhlaaGreatDoorMgd
import Derived.Test.YtjlikcfabekhlaaGreatDoorMge
import Derived.Shelf.Strings.Trim
import Derived.Shelf.Small.Utf8
import Derived.Shelf.Small.Strs
import Derived.Shelf.Small.Wraps
import Derived.Shelf.LaysM
import Derived.Shelf.Strconv.Clone
import Derived.Shelf.Strings.Search1
import Derived.Shelf.Strings.Search2
import Derived.Shelf.Strings.Search3
import Derived.Shelf.Strings.Shaped
import Derived.Shelf.Strings.Prefix
import Derived.Shelf.Strings.Runes
import Derived.Shelf.Strings.IndexAny
import Derived.Shelf.Strings.AsciiSet
import Derived.Shelf.Strings.IndexAnyAll
import Derived.Shelf.Unicode.DecodeSlow
import Derived.Shelf.Slices.Equal
import Derived.Shelf.Slices.Empties2
import Derived.Test.YtjlikcfabekhlaaGreatDoorProg
set_option linter.unusedSimpArgs false
set_option linter.unusedVariables false

/- The parser of expressions: a prime (layer 12). -/
namespace Go.Proofs.YtjlikcfabekhlaaGreatDoor
open Go.RowKit Go.Tab

/-- What is behind a text token's quotes, as the parser is told. -/
theorem quo_parse (s : ByteArray) : (quoX s = none ∧ ∃ x e, parseV (parseQ (bs s)) = .tuple #[.string x, .int .i64 e] ∧ e ≠ 0) ∨ ∃ x, quoX s = some x ∧ parseV (parseQ (bs s)) = .tuple #[.string x, .int .i64 0] := by
  have hb : bs s = nb s.data.toList := rfl
  have hB : Byt (nb s.data.toList) := nb_byt _
  have hl : (nb s.data.toList).length = s.size := by rw [← hb, bs_length]
  unfold quoX parseQ parseV
  rw [hb]
  by_cases h1 : (scanQ (nb s.data.toList)).2.2 = 0
  · have hz := (scanQ_size hB h1).2
    have h1n : ¬ (scanQ (nb s.data.toList)).2.2 ≠ 0 := fun h => h h1
    by_cases h2 : (scanQ (nb s.data.toList)).2.1 = s.size
    · right
      have h3 : ¬ (scanQ (nb s.data.toList)).2.1 < (nb s.data.toList).length := by omega
      rw [if_pos ⟨h1, h2⟩, if_neg h1n, if_neg h3]
      exact ⟨_, rfl, rfl⟩
    · left
      have h3 : (scanQ (nb s.data.toList)).2.1 < (nb s.data.toList).length := by omega
      have h4 : ¬ ((scanQ (nb s.data.toList)).2.2 = 0 ∧ (scanQ (nb s.data.toList)).2.1 = s.size) := fun h => h2 h.2
      rw [if_neg h4, if_neg h1n, if_pos h3]
      exact ⟨rfl, _, _, rfl, by decide⟩
  · left
    have h4 : ¬ ((scanQ (nb s.data.toList)).2.2 = 0 ∧ (scanQ (nb s.data.toList)).2.1 = s.size) := fun h => h1 h.1
    rw [if_neg h4, if_pos h1]
    exact ⟨rfl, _, _, rfl, by simp only; omega⟩
/-- What prime holds between its calls: its result's box and its token. -/
structure Pm (w0 : World) (q tb g : Nat) (t : Tok) (w : World) : Prop where
  rs : Rs w0 q g w
  tok : Cells w tb #[.int .i64 t.kind, .string t.text, .int .i64 t.pos] 52
  tbg : tb ≠ g
  tb0 : w0.heap.size ≤ tb
  tbq : tb ≠ q
theorem Pm.step {w0 w w' : World} {q tb g : Nat} {t : Tok} (h : Pm w0 q tb g t w) (hs : Save g w w') : Pm w0 q tb g t w' :=
  ⟨h.rs.step hs, hs.cells h.tok h.tbg, h.tbg, h.tb0, h.tbq⟩
theorem PrC.below' {w w' : World} {g : Nat} {lv : Value} {k e : Int} (h : PrC w g lv k e) (hb : Below w.heap.size w w') : PrC w' g lv k e := Cells.below h hb h.lt
set_option maxHeartbeats 4000000 in
set_option maxRecDepth 100000 in
theorem prime_step (m : Nat) (hM : ManyC m) (hC : ChoiceC m) : PrimeC (m + 1) := by
  intro w g lv l k d h hd hne
  obtain ⟨a0, c0, rfl, hl1, hl2, -⟩ := h.toks.len
  unfold maxLen at hl2
  have hkl := h.le
  have hsm := h.small
  have hgw := h.box.lt
  have H0 := Lib.hid h
  have hR := Rs.start h
  have h1 := h.step ((Below.refl _ w).alloc (Nat.le_refl _) (.cells zeroC 30))
  have hz1 : (w.alloc (.cells zeroC 30)).heap.size = w.heap.size + 1 := by simp
  obtain ⟨R, hRR⟩ : ∃ R, R = parX (m + 1) .prime (l.drop k) d := ⟨_, rfl⟩
  rw [← hRR] at hne ⊢
  go_enter Tryz.func132, Tryz.ntmps132
  go_wp2_with fail
  generalize w.alloc (.cells zeroC 30) = w1 at hR h1 hz1 ⊢
  have hbox := h1.box
  have hbl := hbox.lt
  by_cases hk : k = l.length
  · have hq : ((k : Int) == (l.length : Int)) = true := by rw [beq_iff_eq]; omega
    have hW := fun n => wrong_ok (w1.drewN n) g _ l k (h1.step (below_draws w1.heap.size w1 n))
    rw [hk, List.drop_length, parX, badX_e] at hRR
    have hdr : l.drop k = [] := by rw [hk, List.drop_length]
    rw [hdr] at hW
    have hw2 : wrE [] ≠ 0 := wrE_ne _
    generalize wrE [] = ee at *
    have HRR := Lib.hid (And.intro hRR hw2)
    clear hRR hw2 hdr hk h1
    have hboxc0 := hbox.cell 0 _ rfl
    have hboxf0 := hbox.frozen 0
    have hboxc1 := hbox.cell 1 _ rfl
    have hboxf1 := hbox.frozen 1
    have hboxc2 := hbox.cell 2 _ rfl
    have hboxf2 := hbox.frozen 2
    clear hbox
    go_quiet (fail)
    go_wp2_with fail
    refine (hW _).mono ?_
    rintro _ w2 ⟨rfl, hc9, hs2⟩
    have hR9 := hR.step (((Save.refl g w1).drewN _).trans hs2)
    have hres := hR9.res
    have hrl := hres.lt
    have HR := Lib.hid (And.intro hR9 hc9)
    clear hR hs2 hW hboxc0 hboxc1 hboxc2 hboxf0 hboxf1 hboxf2 hR9 hc9
    have hresc0 := hres.cell 0 _ rfl
    have hresf0 := hres.frozen 0
    have hresc1 := hres.cell 1 _ rfl
    have hresf1 := hres.frozen 1
    have hresc2 := hres.cell 2 _ rfl
    have hresf2 := hres.frozen 2
    clear hres
    go_wp2
    obtain ⟨hR9, hc9⟩ := HR.out
    have hq := ((hR9.res.setI 0 (.string ⟨#[]⟩)).setI 1 (.string ⟨#[]⟩)).setI 2 (.slice none 0 0)
    have hx := hq.cell 0 _ rfl
    have hy := hq.cell 1 _ rfl
    have hz := hq.cell 2 _ rfl
    refine bodyPost_ret (v := .agg #[.string ⟨#[]⟩, .string ⟨#[]⟩, .slice none 0 0]) (by simp [results, Tryz.results132, go_sem, hx, hy, hz]) rfl ?_
    have hS9 := hR9.fin [.string ⟨#[]⟩, .string ⟨#[]⟩, .slice none 0 0]
    have hP9 := hR9.prc hc9 [.string ⟨#[]⟩, .string ⟨#[]⟩, .slice none 0 0]
    show XP g (.slice a0 l.length c0) k _ w _ (setAll w2 w.heap.size 0 [.string ⟨#[]⟩, .string ⟨#[]⟩, .slice none 0 0])
    rw [HRR.out.1]
    exact ⟨hS9, hP9, _, _, _, _, _, rfl, fun e => absurd e HRR.out.2⟩
  · have hkl2 : k < l.length := by omega
    have hq : ((k : Int) == (l.length : Int)) = false := by rw [beq_eq_false_iff_ne]; omega
    obtain ⟨tb, tof, hte, htb, c0', c1', c2'⟩ := ToksAt.get h1.toks hkl2
    have hdc : l.drop k = l[k] :: l.drop (k + 1) := List.drop_eq_getElem_cons hkl2
    rw [hdc, parX, ← hdc] at hRR
    have hsh := h1.short _ (List.getElem_mem hkl2)
    cases hte
    generalize l[k] = t at *
    have hbx := hbox
    have hbxc0 := hbx.cell 0 _ rfl
    have hbxf0 := hbx.frozen 0
    have hbxc1 := hbx.cell 1 _ rfl
    have hbxf1 := hbx.frozen 1
    have hbxc2 := hbx.cell 2 _ rfl
    have hbxf2 := hbx.frozen 2
    go_quiet (fail)
    go_wp2_with fail
    have ha : ∀ (n b' o' : Nat) (u : Value), b' < w1.heap.size → w1.cell? ⟨b', o', none⟩ = some u → ((w1.drewN n).alloc (.cells #[.int .i64 0, .string ⟨#[]⟩, .int .i64 0] 52)).cell? ⟨b', o', none⟩ = some u := fun n b' o' u h1 h2 => (World.cell?_alloc_past _ _ _ h1).trans h2
    have ha0 := fun n => ha n _ _ _ hbl hbxc0
    have ha1 := fun n => ha n _ _ _ hbl hbxc1
    have hb0 := fun n => ha n _ _ _ htb c0'
    have hb1 := fun n => ha n _ _ _ htb c1'
    have hb2 := fun n => ha n _ _ _ htb c2'
    have hn := fun n => Cells.new (w1.drewN n) #[.int .i64 0, .string ⟨#[]⟩, .int .i64 0] 52
    have hn0 : ∀ n, ((w1.drewN n).alloc (.cells #[.int .i64 0, .string ⟨#[]⟩, .int .i64 0] 52)).cell? ⟨w1.heap.size, 0, none⟩ = some (.int .i64 0) := fun n => (hn n).cell 0 _ rfl
    have hn1 : ∀ n, ((w1.drewN n).alloc (.cells #[.int .i64 0, .string ⟨#[]⟩, .int .i64 0] 52)).cell? ⟨w1.heap.size, 1, none⟩ = some (.string ⟨#[]⟩) := fun n => (hn n).cell 1 _ rfl
    have hn2 : ∀ n, ((w1.drewN n).alloc (.cells #[.int .i64 0, .string ⟨#[]⟩, .int .i64 0] 52)).cell? ⟨w1.heap.size, 2, none⟩ = some (.int .i64 0) := fun n => (hn n).cell 2 _ rfl
    have hm0 : ∀ n, ((w1.drewN n).alloc (.cells #[.int .i64 0, .string ⟨#[]⟩, .int .i64 0] 52)).frozen? ⟨w1.heap.size, 0, none⟩ = false := fun n => (hn n).frozen 0
    have hm1 : ∀ n, ((w1.drewN n).alloc (.cells #[.int .i64 0, .string ⟨#[]⟩, .int .i64 0] 52)).frozen? ⟨w1.heap.size, 1, none⟩ = false := fun n => (hn n).frozen 1
    have hm2 : ∀ n, ((w1.drewN n).alloc (.cells #[.int .i64 0, .string ⟨#[]⟩, .int .i64 0] 52)).frozen? ⟨w1.heap.size, 2, none⟩ = false := fun n => (hn n).frozen 2
    have HRR := Lib.hid hRR
    have H1 := Lib.hid (And.intro h1 (And.intro hR (And.intro hsh hdc)))
    clear hRR h1 hR hsh hdc hbox H0
    go_region
    have hbe : Below w1.heap.size w1 ((w1.drewN (nq + 1)).alloc (.cells #[.int .i64 t.kind, .string t.text, .int .i64 t.pos] 52)) := (below_draws w1.heap.size w1 (nq + 1)).alloc (Nat.le_refl _) _
    have hcl := Cells.new (w1.drewN (nq + 1)) #[.int .i64 t.kind, .string t.text, .int .i64 t.pos] 52
    rw [show (w1.drewN (nq + 1)).heap.size = w.heap.size + 1 from hz1] at hcl
    generalize (w1.drewN (nq + 1)).alloc (.cells #[.int .i64 t.kind, .string t.text, .int .i64 t.pos] 52) = w2 at hbe hcl ⊢
    obtain ⟨h1, hR, hsh, hdc⟩ := H1.out
    have h2 := h1.step hbe
    have hC9 : Pm w w.heap.size (w.heap.size + 1) g t w2 := ⟨hR.below hbe, hcl, by omega, by omega, by omega⟩
    clear H1 h1 hR hbe hcl ha ha0 ha1 hb0 hb1 hb2 hn hn0 hn1 hn2 hm0 hm1 hm2 c0' c1' c2' hbxc0 hbxc1 hbxc2 hbxf0 hbxf1 hbxf2 hbx hbl htb hq
    have hR2 := HRR.out
    by_cases k1 : t.kind = 1
    · rw [if_pos k1] at hR2
      have kb : (t.kind == 1) = true := by rw [beq_iff_eq]; exact k1
      have hs6 : Save g w2 (w2.setCell ⟨g, 1, none⟩ (.int .i64 ((k : Int) + 1))) := (Save.refl g w2).set 1 _
      have hc6 : PrC (w2.setCell ⟨g, 1, none⟩ (.int .i64 ((k : Int) + 1))) g (.slice (some ⟨tb, tof, none⟩) l.length c0) ((k + 1 : Nat)) 0 := h2.box.setI 1 (.int .i64 ((k : Int) + 1))
      have h6 : Prs (w2.setCell ⟨g, 1, none⟩ (.int .i64 ((k : Int) + 1))) g (.slice (some ⟨tb, tof, none⟩) l.length c0) l (k + 1) := h2.go hs6 hc6 hkl2
      have H6 := Lib.hid (And.intro (hC9.step hs6) h6)
      have hc9 := h2.box
      have K1 := Lib.hid k1
      have HR1 := Lib.hid hR2
      clear hs6 hc6 h6 h2 k1 HRR hR2
      have hres := hC9.rs.res
      have hrl := hres.lt
      have hfi := hC9.tok
      have hfl := hfi.lt
      have hgl := hc9.lt
      have HR := Lib.hid (And.intro hC9 hc9)
      have hresc0 := hres.cell 0 _ rfl
      have hresf0 := hres.frozen 0
      have hresc1 := hres.cell 1 _ rfl
      have hresf1 := hres.frozen 1
      have hresc2 := hres.cell 2 _ rfl
      have hresf2 := hres.frozen 2
      have hfic0 := hfi.cell 0 _ rfl
      have hfif0 := hfi.frozen 0
      have hfic1 := hfi.cell 1 _ rfl
      have hfif1 := hfi.frozen 1
      have hfic2 := hfi.cell 2 _ rfl
      have hfif2 := hfi.frozen 2
      have hc9c0 := hc9.cell 0 _ rfl
      have hc9f0 := hc9.frozen 0
      have hc9c1 := hc9.cell 1 _ rfl
      have hc9f1 := hc9.frozen 1
      have hc9c2 := hc9.cell 2 _ rfl
      have hc9f2 := hc9.frozen 2
      clear hC9 hc9 hres hfi
      go_wp2_with fail
      obtain ⟨hC9, hc9⟩ := HR.out
      clear HR hrl hfl hgl hresc0 hresc1 hresc2 hresf0 hresf1 hresf2 hfic0 hfic1 hfic2 hfif0 hfif1 hfif2 hc9c0 hc9c1 hc9c2 hc9f0 hc9f1 hc9f2
      clear hC9 hc9
      obtain ⟨hC9, h6⟩ := H6.out
      clear H6
      generalize w2.setCell ⟨g, 1, none⟩ (.int .i64 ((k : Int) + 1)) = w3 at *
      have hI := is_ok w3 g _ l (k + 1) sLp h6
      have hR2 := HR1.out
      clear HR1
      by_cases s1 : isS (l.drop (k + 1)) sLp = true
      · rw [if_pos s1] at hR2
        rw [s1] at hI
        have hr1 : (parX m (.many sRp) (l.drop (k + 1)) d).2.2 ≠ -1 := by
          have hne2 := hne
          rw [hR2] at hne2
          exact andX_ne (g := upX 1 (parX m (.many sRp) (l.drop (k + 1)) d)) hne2
        have hMM := fun w3 h3 => hM w3 g (.slice (some ⟨tb, tof, none⟩) l.length c0) l (k + 1) d sRp h3 (isS_some s1) hd (.inl rfl) hr1
        generalize parX m (.many sRp) (l.drop (k + 1)) d = r1 at *
        obtain ⟨x1, n1, e1⟩ := r1
        simp only at hMM hr1
        have HR2 := Lib.hid hR2
        clear hR2
        refine hI.mono ?_
        rintro _ w4 ⟨rfl, hb4⟩
        have h4 := h6.step hb4
        replace hC9 := hC9.step (Save.of hb4)
        have hMD := hMM w4.drew (h4.step ((Below.refl _ _).drew))
        clear hMM hI h6 hb4
        have hC4 := Lib.hid hC9
        have hfi := hC9.tok
        have hfl := hfi.lt
        have hz4 := hC9.rs.save.size
        clear hC9
        have hfic0 := hfi.cell 0 _ rfl
        have hfif0 := hfi.frozen 0
        have hfic1 := hfi.cell 1 _ rfl
        have hfif1 := hfi.frozen 1
        have hfic2 := hfi.cell 2 _ rfl
        have hfif2 := hfi.frozen 2
        go_wp2_with fail
        go_region_law (first
          | (go_simp; go_at_call 155; refine hMD.mono ?_; rintro _ w5 ⟨hs5, hc5, ya, yn, yc, rfl, hX5⟩; have hfi5 := hs5.cells hfi.drew (by omega); have hfl5 := hfi5.lt; have hg0 := hfi5.cell 1 _ rfl; have hres := (hC4.out.step ((Save.refl g w4).drew.trans hs5)).rs.res; have hrl := hres.lt; have hr0 := hres.cell 0 _ rfl; have hr1' := hres.cell 1 _ rfl; have hr2' := hres.cell 2 _ rfl; have hv0 := hres.frozen 0; have hv1 := hres.frozen 1; have hv2 := hres.frozen 2; have H5 := Lib.hid (And.intro hs5 (And.intro hc5 hX5)); clear hs5 hc5 hX5 hres hfi5))
        all_goals
          go_wp2
          obtain ⟨hs5, hc9, hX5⟩ := H5.out
          have hsD := (Save.refl g w4).drew.trans hs5
          have hR9 := (hC4.out.step hsD).rs
          have hq := ((hR9.res.setI 0 (.string oCall)).setI 1 (.string t.text)).setI 2 (.slice ya yn yc)
          have hx := hq.cell 0 _ rfl
          have hy := hq.cell 1 _ rfl
          have hz := hq.cell 2 _ rfl
          refine bodyPost_ret (v := .agg #[.string oCall, .string t.text, .slice ya yn yc]) (by simp [results, Tryz.results132, go_sem, hx, hy, hz]) rfl ?_
          have hS9 := hR9.fin [.string oCall, .string t.text, .slice ya yn yc]
          have hP9 := hR9.prc hc9 [.string oCall, .string t.text, .slice ya yn yc]
          show XP g (.slice (some ⟨tb, tof, none⟩) l.length c0) k _ w _ (setAll w5 w.heap.size 0 [.string oCall, .string t.text, .slice ya yn yc])
          have hR2 := HR2.out
          have hzz : w.heap.size < w4.drew.heap.size := by show w.heap.size < w4.heap.size; omega
          by_cases he : e1 = 0
          · subst he
            rw [andX_ok (by rfl)] at hR2
            simp only [upX] at hR2
            rw [hR2]
            rw [show k + 1 + n1 = k + (1 + n1) by omega] at hP9
            exact ⟨hS9, hP9, _, _, _, _, _, rfl, fun _ => ExpIn.keep (Nat.le_of_lt hzz) hzz (hX5 rfl oCall t.text)⟩
          · rw [andX_bad (by exact he)] at hR2
            simp only [upX] at hR2
            rw [hR2]
            rw [show k + 1 + n1 = k + (1 + n1) by omega] at hP9
            exact ⟨hS9, hP9, _, _, _, _, _, rfl, fun h => absurd h he⟩
      · have s1f : isS (l.drop (k + 1)) sLp = false := by simpa using s1
        rw [if_neg s1] at hR2
        rw [s1f] at hI
        have HR2 := Lib.hid hR2
        clear hR2
        refine hI.mono ?_
        rintro _ w4 ⟨rfl, hb4⟩
        have hc9 := h6.box.below hb4 h6.box.lt
        replace hC9 := hC9.step (Save.of hb4)
        clear hI h6 hb4
        have hres := hC9.rs.res
        have hrl := hres.lt
        have hfi := hC9.tok
        have hfl := hfi.lt
        have hgl := hc9.lt
        have HR := Lib.hid (And.intro hC9 hc9)
        have hresc0 := hres.cell 0 _ rfl
        have hresf0 := hres.frozen 0
        have hresc1 := hres.cell 1 _ rfl
        have hresf1 := hres.frozen 1
        have hresc2 := hres.cell 2 _ rfl
        have hresf2 := hres.frozen 2
        have hfic0 := hfi.cell 0 _ rfl
        have hfif0 := hfi.frozen 0
        have hfic1 := hfi.cell 1 _ rfl
        have hfif1 := hfi.frozen 1
        have hfic2 := hfi.cell 2 _ rfl
        have hfif2 := hfi.frozen 2
        have hc9c0 := hc9.cell 0 _ rfl
        have hc9f0 := hc9.frozen 0
        have hc9c1 := hc9.cell 1 _ rfl
        have hc9f1 := hc9.frozen 1
        have hc9c2 := hc9.cell 2 _ rfl
        have hc9f2 := hc9.frozen 2
        clear hC9 hc9 hres hfi
        go_wp2
        obtain ⟨hC9, hc9⟩ := HR.out
        have hR9 := hC9.rs
        have hq := ((hR9.res.setI 0 (.string oName)).setI 1 (.string t.text)).setI 2 (.slice none 0 0)
        have hx := hq.cell 0 _ rfl
        have hy := hq.cell 1 _ rfl
        have hz := hq.cell 2 _ rfl
        refine bodyPost_ret (v := .agg #[.string oName, .string t.text, .slice none 0 0]) (by simp [results, Tryz.results132, go_sem, hx, hy, hz]) rfl ?_
        have hS9 := hR9.fin [.string oName, .string t.text, .slice none 0 0]
        have hP9 := hR9.prc hc9 [.string oName, .string t.text, .slice none 0 0]
        show XP g (.slice (some ⟨tb, tof, none⟩) l.length c0) k _ w _ (setAll w4 w.heap.size 0 [.string oName, .string t.text, .slice none 0 0])
        rw [HR2.out]
        exact ⟨hS9, hP9, _, _, _, _, _, rfl, fun _ => ExpIn.leaf _ _ oName t.text⟩
    · have kb1 : (t.kind == 1) = false := by rw [beq_eq_false_iff_ne]; exact k1
      rw [if_neg k1] at hR2
      have K1 := Lib.hid k1
      clear k1 HRR
      by_cases k2 : t.kind = 2
      · rw [if_pos k2] at hR2
        have kb : (t.kind == 2) = true := by rw [beq_iff_eq]; exact k2
        have HR2 := Lib.hid hR2
        have H9 := Lib.hid (h2.box.setI 1 (.int .i64 ((k : Int) + 1)))
        have K2 := Lib.hid k2
        have hc9 := h2.box
        have hS5 := Lib.hid (hC9.step ((Save.refl g w2).set 1 (.int .i64 ((k : Int) + 1))))
        clear hR2 k2 h2
        have hres := hC9.rs.res
        have hrl := hres.lt
        have hfi := hC9.tok
        have hfl := hfi.lt
        have hgl := hc9.lt
        have HR := Lib.hid (And.intro hC9 hc9)
        have hresc0 := hres.cell 0 _ rfl
        have hresf0 := hres.frozen 0
        have hresc1 := hres.cell 1 _ rfl
        have hresf1 := hres.frozen 1
        have hresc2 := hres.cell 2 _ rfl
        have hresf2 := hres.frozen 2
        have hfic0 := hfi.cell 0 _ rfl
        have hfif0 := hfi.frozen 0
        have hfic1 := hfi.cell 1 _ rfl
        have hfif1 := hfi.frozen 1
        have hfic2 := hfi.cell 2 _ rfl
        have hfif2 := hfi.frozen 2
        have hc9c0 := hc9.cell 0 _ rfl
        have hc9f0 := hc9.frozen 0
        have hc9c1 := hc9.cell 1 _ rfl
        have hc9f1 := hc9.frozen 1
        have hc9c2 := hc9.cell 2 _ rfl
        have hc9f2 := hc9.frozen 2
        clear hC9 hc9 hres hfi
        go_wp2
        obtain ⟨hC9, hc9⟩ := HR.out
        clear HR hrl hfl hgl hresc0 hresc1 hresc2 hresf0 hresf1 hresf2 hfic0 hfic1 hfic2 hfif0 hfif1 hfif2 hc9c0 hc9c1 hc9c2 hc9f0 hc9f1 hc9f2
        clear hC9 hc9
        have hR9 := hS5.out.rs
        have hc9 : PrC (w2.setCell ⟨g, 1, none⟩ (.int .i64 ((k : Int) + 1))) g (.slice (some ⟨tb, tof, none⟩) l.length c0) ((k + 1 : Nat)) 0 := H9.out
        have hq := ((hR9.res.setI 0 (.string oNum)).setI 1 (.string t.text)).setI 2 (.slice none 0 0)
        have hx := hq.cell 0 _ rfl
        have hy := hq.cell 1 _ rfl
        have hz := hq.cell 2 _ rfl
        refine bodyPost_ret (v := .agg #[.string oNum, .string t.text, .slice none 0 0]) (by simp [results, Tryz.results132, go_sem, hx, hy, hz]) rfl ?_
        have hS9 := hR9.fin [.string oNum, .string t.text, .slice none 0 0]
        have hP9 := hR9.prc hc9 [.string oNum, .string t.text, .slice none 0 0]
        show XP g (.slice (some ⟨tb, tof, none⟩) l.length c0) k _ w _ (setAll (w2.setCell ⟨g, 1, none⟩ (.int .i64 ((k : Int) + 1))) w.heap.size 0 [.string oNum, .string t.text, .slice none 0 0])
        rw [HR2.out]
        exact ⟨hS9, hP9, _, _, _, _, _, rfl, fun _ => ExpIn.leaf _ _ oNum t.text⟩
      · have kb2 : (t.kind == 2) = false := by rw [beq_eq_false_iff_ne]; exact k2
        rw [if_neg k2] at hR2
        have K2 := Lib.hid k2
        clear k2
        by_cases k3 : t.kind = 3
        · rw [if_pos k3] at hR2
          have kb : (t.kind == 3) = true := by rw [beq_iff_eq]; exact k3
          have K3 := Lib.hid k3
          have hPa := Parse_any t.text w2 hsh h2.tab
          rcases quo_parse t.text with ⟨hq1, xs, e, hq2, hq3⟩ | ⟨xs, hq1, hq2⟩
          · rw [hq1] at hR2
            rw [hq2] at hPa
            have HR2 := Lib.hid hR2
            have hne1 : (e != 0) = true := by simpa using hq3
            have hc9 := h2.box
            have H2 := Lib.hid h2
            clear hR2 hq1 hq2 hq3 k3 h2
            have hres := hC9.rs.res
            have hrl := hres.lt
            have hfi := hC9.tok
            have hfl := hfi.lt
            have hgl := hc9.lt
            have HR := Lib.hid (And.intro hC9 hc9)
            have hresc0 := hres.cell 0 _ rfl
            have hresf0 := hres.frozen 0
            have hresc1 := hres.cell 1 _ rfl
            have hresf1 := hres.frozen 1
            have hresc2 := hres.cell 2 _ rfl
            have hresf2 := hres.frozen 2
            have hfic0 := hfi.cell 0 _ rfl
            have hfif0 := hfi.frozen 0
            have hfic1 := hfi.cell 1 _ rfl
            have hfif1 := hfi.frozen 1
            have hfic2 := hfi.cell 2 _ rfl
            have hfif2 := hfi.frozen 2
            have hc9c0 := hc9.cell 0 _ rfl
            have hc9f0 := hc9.frozen 0
            have hc9c1 := hc9.cell 1 _ rfl
            have hc9f1 := hc9.frozen 1
            have hc9c2 := hc9.cell 2 _ rfl
            have hc9f2 := hc9.frozen 2
            clear hC9 hc9 hres hfi
            go_wp2_with fail
            refine hPa.mono ?_
            rintro _ w3 ⟨rfl, hb3⟩
            obtain ⟨hC9, hc9⟩ := HR.out
            clear HR hrl hfl hgl hresc0 hresc1 hresc2 hresf0 hresf1 hresf2 hfic0 hfic1 hfic2 hfif0 hfif1 hfif2 hc9c0 hc9c1 hc9c2 hc9f0 hc9f1 hc9f2
            replace hC9 := hC9.step (Save.of hb3)
            replace hc9 := PrC.below' hc9 hb3
            have hN := fail_ok w3 g _ (k : Nat) 3 hc9
            clear hb3 hPa hc9
            go_wp2_with fail
            refine hN.mono ?_
            rintro _ w4 ⟨rfl, hc9, hs4⟩
            replace hC9 := hC9.step hs4
            clear hN hs4
            have hres := hC9.rs.res
            have hrl := hres.lt
            have hfi := hC9.tok
            have hfl := hfi.lt
            have hgl := hc9.lt
            have HR := Lib.hid (And.intro hC9 hc9)
            have hresc0 := hres.cell 0 _ rfl
            have hresf0 := hres.frozen 0
            have hresc1 := hres.cell 1 _ rfl
            have hresf1 := hres.frozen 1
            have hresc2 := hres.cell 2 _ rfl
            have hresf2 := hres.frozen 2
            have hfic0 := hfi.cell 0 _ rfl
            have hfif0 := hfi.frozen 0
            have hfic1 := hfi.cell 1 _ rfl
            have hfif1 := hfi.frozen 1
            have hfic2 := hfi.cell 2 _ rfl
            have hfif2 := hfi.frozen 2
            have hc9c0 := hc9.cell 0 _ rfl
            have hc9f0 := hc9.frozen 0
            have hc9c1 := hc9.cell 1 _ rfl
            have hc9f1 := hc9.frozen 1
            have hc9c2 := hc9.cell 2 _ rfl
            have hc9f2 := hc9.frozen 2
            clear hC9 hc9 hres hfi
            go_wp2
            obtain ⟨hC9, hc9⟩ := HR.out
            have hR9 := hC9.rs
            have hq := ((hR9.res.setI 0 (.string ⟨#[]⟩)).setI 1 (.string ⟨#[]⟩)).setI 2 (.slice none 0 0)
            have hx := hq.cell 0 _ rfl
            have hy := hq.cell 1 _ rfl
            have hz := hq.cell 2 _ rfl
            refine bodyPost_ret (v := .agg #[.string ⟨#[]⟩, .string ⟨#[]⟩, .slice none 0 0]) (by simp [results, Tryz.results132, go_sem, hx, hy, hz]) rfl ?_
            have hS9 := hR9.fin [.string ⟨#[]⟩, .string ⟨#[]⟩, .slice none 0 0]
            have hP9 := hR9.prc hc9 [.string ⟨#[]⟩, .string ⟨#[]⟩, .slice none 0 0]
            show XP g (.slice (some ⟨tb, tof, none⟩) l.length c0) k _ w _ (setAll w4 w.heap.size 0 [.string ⟨#[]⟩, .string ⟨#[]⟩, .slice none 0 0])
            rw [HR2.out]
            exact ⟨hS9, hP9, _, _, _, _, _, rfl, fun h => by cases h⟩
          · rw [hq1] at hR2
            rw [hq2] at hPa
            have HR2 := Lib.hid hR2
            have hc9 := h2.box
            clear hR2 hq1 hq2 k3 h2
            have hres := hC9.rs.res
            have hrl := hres.lt
            have hfi := hC9.tok
            have hfl := hfi.lt
            have hgl := hc9.lt
            have HR := Lib.hid (And.intro hC9 hc9)
            have hresc0 := hres.cell 0 _ rfl
            have hresf0 := hres.frozen 0
            have hresc1 := hres.cell 1 _ rfl
            have hresf1 := hres.frozen 1
            have hresc2 := hres.cell 2 _ rfl
            have hresf2 := hres.frozen 2
            have hfic0 := hfi.cell 0 _ rfl
            have hfif0 := hfi.frozen 0
            have hfic1 := hfi.cell 1 _ rfl
            have hfif1 := hfi.frozen 1
            have hfic2 := hfi.cell 2 _ rfl
            have hfif2 := hfi.frozen 2
            have hc9c0 := hc9.cell 0 _ rfl
            have hc9f0 := hc9.frozen 0
            have hc9c1 := hc9.cell 1 _ rfl
            have hc9f1 := hc9.frozen 1
            have hc9c2 := hc9.cell 2 _ rfl
            have hc9f2 := hc9.frozen 2
            clear hC9 hc9 hres hfi
            go_wp2_with fail
            refine hPa.mono ?_
            rintro _ w3 ⟨rfl, hb3⟩
            obtain ⟨hC9, hc9⟩ := HR.out
            clear HR hrl hfl hgl hresc0 hresc1 hresc2 hresf0 hresf1 hresf2 hfic0 hfic1 hfic2 hfif0 hfif1 hfif2 hc9c0 hc9c1 hc9c2 hc9f0 hc9f1 hc9f2
            replace hC9 := hC9.step (Save.of hb3)
            replace hc9 := PrC.below' hc9 hb3
            have H9 := Lib.hid (hc9.setI 1 (.int .i64 ((k : Int) + 1)))
            have hS5 := Lib.hid (hC9.step ((Save.refl g w3).set 1 (.int .i64 ((k : Int) + 1))))
            clear hb3 hPa
            have hres := hC9.rs.res
            have hrl := hres.lt
            have hfi := hC9.tok
            have hfl := hfi.lt
            have hgl := hc9.lt
            have HR := Lib.hid (And.intro hC9 hc9)
            have hresc0 := hres.cell 0 _ rfl
            have hresf0 := hres.frozen 0
            have hresc1 := hres.cell 1 _ rfl
            have hresf1 := hres.frozen 1
            have hresc2 := hres.cell 2 _ rfl
            have hresf2 := hres.frozen 2
            have hfic0 := hfi.cell 0 _ rfl
            have hfif0 := hfi.frozen 0
            have hfic1 := hfi.cell 1 _ rfl
            have hfif1 := hfi.frozen 1
            have hfic2 := hfi.cell 2 _ rfl
            have hfif2 := hfi.frozen 2
            have hc9c0 := hc9.cell 0 _ rfl
            have hc9f0 := hc9.frozen 0
            have hc9c1 := hc9.cell 1 _ rfl
            have hc9f1 := hc9.frozen 1
            have hc9c2 := hc9.cell 2 _ rfl
            have hc9f2 := hc9.frozen 2
            clear hC9 hc9 hres hfi
            go_wp2
            obtain ⟨hC9, hc9⟩ := HR.out
            clear HR hrl hfl hgl hresc0 hresc1 hresc2 hresf0 hresf1 hresf2 hfic0 hfic1 hfic2 hfif0 hfif1 hfif2 hc9c0 hc9c1 hc9c2 hc9f0 hc9f1 hc9f2
            clear hC9 hc9
            have hR9 := hS5.out.rs
            have hc9 : PrC (w3.setCell ⟨g, 1, none⟩ (.int .i64 ((k : Int) + 1))) g (.slice (some ⟨tb, tof, none⟩) l.length c0) ((k + 1 : Nat)) 0 := H9.out
            have hq := ((hR9.res.setI 0 (.string oText)).setI 1 (.string xs)).setI 2 (.slice none 0 0)
            have hx := hq.cell 0 _ rfl
            have hy := hq.cell 1 _ rfl
            have hz := hq.cell 2 _ rfl
            refine bodyPost_ret (v := .agg #[.string oText, .string xs, .slice none 0 0]) (by simp [results, Tryz.results132, go_sem, hx, hy, hz]) rfl ?_
            have hS9 := hR9.fin [.string oText, .string xs, .slice none 0 0]
            have hP9 := hR9.prc hc9 [.string oText, .string xs, .slice none 0 0]
            show XP g (.slice (some ⟨tb, tof, none⟩) l.length c0) k _ w _ (setAll (w3.setCell ⟨g, 1, none⟩ (.int .i64 ((k : Int) + 1))) w.heap.size 0 [.string oText, .string xs, .slice none 0 0])
            rw [HR2.out]
            exact ⟨hS9, hP9, _, _, _, _, _, rfl, fun _ => ExpIn.leaf _ _ oText xs⟩
        · have kb3 : (t.kind == 3) = false := by rw [beq_eq_false_iff_ne]; exact k3
          rw [if_neg k3] at hR2
          have K3 := Lib.hid k3
          clear k3
          have HR1 := Lib.hid hR2
          clear hR2
          have hI := is_ok w2 g _ l k sLb h2
          have hc9 := h2.box
          have hres := hC9.rs.res
          have hrl := hres.lt
          have hfi := hC9.tok
          have hfl := hfi.lt
          have hgl := hc9.lt
          have HR := Lib.hid (And.intro hC9 hc9)
          have hresc0 := hres.cell 0 _ rfl
          have hresf0 := hres.frozen 0
          have hresc1 := hres.cell 1 _ rfl
          have hresf1 := hres.frozen 1
          have hresc2 := hres.cell 2 _ rfl
          have hresf2 := hres.frozen 2
          have hfic0 := hfi.cell 0 _ rfl
          have hfif0 := hfi.frozen 0
          have hfic1 := hfi.cell 1 _ rfl
          have hfif1 := hfi.frozen 1
          have hfic2 := hfi.cell 2 _ rfl
          have hfif2 := hfi.frozen 2
          have hc9c0 := hc9.cell 0 _ rfl
          have hc9f0 := hc9.frozen 0
          have hc9c1 := hc9.cell 1 _ rfl
          have hc9f1 := hc9.frozen 1
          have hc9c2 := hc9.cell 2 _ rfl
          have hc9f2 := hc9.frozen 2
          clear hC9 hc9 hres hfi
          go_wp2_with fail
          obtain ⟨hC9, hc9⟩ := HR.out
          clear HR hrl hfl hgl hresc0 hresc1 hresc2 hresf0 hresf1 hresf2 hfic0 hfic1 hfic2 hfif0 hfif1 hfif2 hc9c0 hc9c1 hc9c2 hc9f0 hc9f1 hc9f2
          clear hc9
          have hR2 := HR1.out
          clear HR1
          by_cases s1 : isS (l.drop k) sLb = true
          · rw [if_pos s1] at hR2
            rw [s1] at hI
            have hr1 : (parX m (.many sRb) (l.drop k) d).2.2 ≠ -1 := by
              have hne2 := hne
              rw [hR2] at hne2
              exact andX_ne (g := parX m (.many sRb) (l.drop k) d) hne2
            have hMM := fun w3 h3 => hM w3 g (.slice (some ⟨tb, tof, none⟩) l.length c0) l k d sRb h3 (isS_some s1) hd (.inr rfl) hr1
            generalize parX m (.many sRb) (l.drop k) d = r1 at *
            obtain ⟨x1, n1, e1⟩ := r1
            simp only at hMM hr1
            have HR2 := Lib.hid hR2
            clear hR2
            refine hI.mono ?_
            rintro _ w4 ⟨rfl, hb4⟩
            have h4 := h2.step hb4
            replace hC9 := hC9.step (Save.of hb4)
            clear hI h2 hb4
            have hz4 := hC9.rs.save.size
            have hw4 := hC9.rs.res.lt
            go_wp2_with fail
            refine (hMM w4 h4).mono ?_
            rintro _ w5 ⟨hs5, hc9, ya, yn, yc, rfl, hX5⟩
            replace hC9 := hC9.step hs5
            have HX5 := Lib.hid hX5
            clear hs5 h4 hMM hX5
            have hres := hC9.rs.res
            have hrl := hres.lt
            have hfi := hC9.tok
            have hfl := hfi.lt
            have hgl := hc9.lt
            have HR := Lib.hid (And.intro hC9 hc9)
            have hresc0 := hres.cell 0 _ rfl
            have hresf0 := hres.frozen 0
            have hresc1 := hres.cell 1 _ rfl
            have hresf1 := hres.frozen 1
            have hresc2 := hres.cell 2 _ rfl
            have hresf2 := hres.frozen 2
            have hfic0 := hfi.cell 0 _ rfl
            have hfif0 := hfi.frozen 0
            have hfic1 := hfi.cell 1 _ rfl
            have hfif1 := hfi.frozen 1
            have hfic2 := hfi.cell 2 _ rfl
            have hfif2 := hfi.frozen 2
            have hc9c0 := hc9.cell 0 _ rfl
            have hc9f0 := hc9.frozen 0
            have hc9c1 := hc9.cell 1 _ rfl
            have hc9f1 := hc9.frozen 1
            have hc9c2 := hc9.cell 2 _ rfl
            have hc9f2 := hc9.frozen 2
            clear hC9 hc9 hres hfi
            go_wp2
            obtain ⟨hC9, hc9⟩ := HR.out
            have hR9 := hC9.rs
            have hq := ((hR9.res.setI 0 (.string oList)).setI 1 (.string ⟨#[]⟩)).setI 2 (.slice ya yn yc)
            have hx := hq.cell 0 _ rfl
            have hy := hq.cell 1 _ rfl
            have hz := hq.cell 2 _ rfl
            refine bodyPost_ret (v := .agg #[.string oList, .string ⟨#[]⟩, .slice ya yn yc]) (by simp [results, Tryz.results132, go_sem, hx, hy, hz]) rfl ?_
            have hS9 := hR9.fin [.string oList, .string ⟨#[]⟩, .slice ya yn yc]
            have hP9 := hR9.prc hc9 [.string oList, .string ⟨#[]⟩, .slice ya yn yc]
            show XP g (.slice (some ⟨tb, tof, none⟩) l.length c0) k _ w _ (setAll w5 w.heap.size 0 [.string oList, .string ⟨#[]⟩, .slice ya yn yc])
            have hR2 := HR2.out
            by_cases he : e1 = 0
            · subst he
              rw [andX_ok (by rfl)] at hR2
              rw [hR2]
              exact ⟨hS9, hP9, _, _, _, _, _, rfl, fun _ => ExpIn.keep (Nat.le_of_lt hw4) hw4 (HX5.out rfl oList ⟨#[]⟩)⟩
            · rw [andX_bad (by exact he)] at hR2
              rw [hR2]
              exact ⟨hS9, hP9, _, _, _, _, _, rfl, fun h => absurd h he⟩
          · have s1f : isS (l.drop k) sLb = false := by simpa using s1
            rw [if_neg s1] at hR2
            rw [s1f] at hI
            have HR1 := Lib.hid hR2
            clear hR2
            refine hI.mono ?_
            rintro _ w4 ⟨rfl, hb4⟩
            have h4 := h2.step hb4
            replace hC9 := hC9.step (Save.of hb4)
            clear hI h2 hb4
            have hI := is_ok w4 g _ l k sLp h4
            have hc9 := h4.box
            have hres := hC9.rs.res
            have hrl := hres.lt
            have hfi := hC9.tok
            have hfl := hfi.lt
            have hgl := hc9.lt
            have HR := Lib.hid (And.intro hC9 hc9)
            have hresc0 := hres.cell 0 _ rfl
            have hresf0 := hres.frozen 0
            have hresc1 := hres.cell 1 _ rfl
            have hresf1 := hres.frozen 1
            have hresc2 := hres.cell 2 _ rfl
            have hresf2 := hres.frozen 2
            have hfic0 := hfi.cell 0 _ rfl
            have hfif0 := hfi.frozen 0
            have hfic1 := hfi.cell 1 _ rfl
            have hfif1 := hfi.frozen 1
            have hfic2 := hfi.cell 2 _ rfl
            have hfif2 := hfi.frozen 2
            have hc9c0 := hc9.cell 0 _ rfl
            have hc9f0 := hc9.frozen 0
            have hc9c1 := hc9.cell 1 _ rfl
            have hc9f1 := hc9.frozen 1
            have hc9c2 := hc9.cell 2 _ rfl
            have hc9f2 := hc9.frozen 2
            clear hC9 hc9 hres hfi
            go_wp2_with fail
            obtain ⟨hC9, hc9⟩ := HR.out
            clear HR hrl hfl hgl hresc0 hresc1 hresc2 hresf0 hresf1 hresf2 hfic0 hfic1 hfic2 hfif0 hfif1 hfif2 hc9c0 hc9c1 hc9c2 hc9f0 hc9f1 hc9f2
            clear hc9
            have hR2 := HR1.out
            clear HR1
            by_cases s2 : isS (l.drop k) sLp = true
            · rw [if_pos s2] at hR2
              rw [s2] at hI
              by_cases hd6 : 64 ≤ d
              · rw [if_pos hd6] at hR2
                have HR2 := Lib.hid hR2
                clear hR2
                refine hI.mono ?_
                rintro _ w5 ⟨rfl, hb5⟩
                have h5 := h4.step hb5
                replace hC9 := hC9.step (Save.of hb5)
                clear hI h4 hb5
                have hN := into_no w5 g _ k d h5.box hd6
                go_wp2_with fail
                refine hN.mono ?_
                rintro _ w6 ⟨rfl, hc9, hs6⟩
                replace hC9 := hC9.step hs6
                clear hN hs6 h5
                have hres := hC9.rs.res
                have hrl := hres.lt
                have hfi := hC9.tok
                have hfl := hfi.lt
                have hgl := hc9.lt
                have HR := Lib.hid (And.intro hC9 hc9)
                have hresc0 := hres.cell 0 _ rfl
                have hresf0 := hres.frozen 0
                have hresc1 := hres.cell 1 _ rfl
                have hresf1 := hres.frozen 1
                have hresc2 := hres.cell 2 _ rfl
                have hresf2 := hres.frozen 2
                have hfic0 := hfi.cell 0 _ rfl
                have hfif0 := hfi.frozen 0
                have hfic1 := hfi.cell 1 _ rfl
                have hfif1 := hfi.frozen 1
                have hfic2 := hfi.cell 2 _ rfl
                have hfif2 := hfi.frozen 2
                have hc9c0 := hc9.cell 0 _ rfl
                have hc9f0 := hc9.frozen 0
                have hc9c1 := hc9.cell 1 _ rfl
                have hc9f1 := hc9.frozen 1
                have hc9c2 := hc9.cell 2 _ rfl
                have hc9f2 := hc9.frozen 2
                clear hC9 hc9 hres hfi
                go_wp2
                obtain ⟨hC9, hc9⟩ := HR.out
                have hR9 := hC9.rs
                have hq := ((hR9.res.setI 0 (.string ⟨#[]⟩)).setI 1 (.string ⟨#[]⟩)).setI 2 (.slice none 0 0)
                have hx := hq.cell 0 _ rfl
                have hy := hq.cell 1 _ rfl
                have hz := hq.cell 2 _ rfl
                refine bodyPost_ret (v := .agg #[.string ⟨#[]⟩, .string ⟨#[]⟩, .slice none 0 0]) (by simp [results, Tryz.results132, go_sem, hx, hy, hz]) rfl ?_
                have hS9 := hR9.fin [.string ⟨#[]⟩, .string ⟨#[]⟩, .slice none 0 0]
                have hP9 := hR9.prc hc9 [.string ⟨#[]⟩, .string ⟨#[]⟩, .slice none 0 0]
                show XP g (.slice (some ⟨tb, tof, none⟩) l.length c0) k _ w _ (setAll w6 w.heap.size 0 [.string ⟨#[]⟩, .string ⟨#[]⟩, .slice none 0 0])
                rw [HR2.out]
                exact ⟨hS9, hP9, _, _, _, _, _, rfl, fun h => by cases h⟩
              · rw [if_neg hd6] at hR2
                simp only [List.drop_drop] at hR2
                have hr1 : (parX m .choice (l.drop (k + 1)) (d + 1)).2.2 ≠ -1 := by
                  have hne2 := hne
                  rw [hR2] at hne2
                  exact andX_ne (g := upX 1 (parX m .choice (l.drop (k + 1)) (d + 1))) hne2
                have hle2 := (parX_le m .choice (l.drop (k + 1)) (d + 1) (by simp only [Nt.okX]) hr1).1
                rw [List.length_drop] at hle2
                have hCC := fun w3 h3 => hC w3 g (.slice (some ⟨tb, tof, none⟩) l.length c0) l (k + 1) (d + 1) h3 (by omega) hr1
                rw [show ((d + 1 : Nat) : Int) = (d : Int) + 1 by omega] at hCC
                generalize parX m .choice (l.drop (k + 1)) (d + 1) = r1 at *
                obtain ⟨x1, n1, e1⟩ := r1
                simp only at hle2 hr1
                have HR2 := Lib.hid hR2
                clear hR2
                refine hI.mono ?_
                rintro _ w5 ⟨rfl, hb5⟩
                have h5 := h4.step hb5
                replace hC9 := hC9.step (Save.of hb5)
                clear hI h4 hb5
                have hN := into_yes w5 g _ k d h5.box (by omega) (by omega)
                go_wp2_with fail
                refine hN.mono ?_
                rintro _ w6 ⟨rfl, hc6, hs6⟩
                have h6 := h5.go hs6 hc6 hkl2
                replace hC9 := hC9.step hs6
                have hz6 := hC9.rs.save.size
                have hw6 := hC9.rs.res.lt
                clear hN hs6 h5 hc6
                go_wp2_with fail
                refine (hCC w6 h6).mono ?_
                rintro _ w7 ⟨hs7, hc7, o2, t2, a2, m2, c2, rfl, hX7⟩
                simp only at hc7 hX7
                replace hC9 := hC9.step hs7
                have hP7 : e1 = 0 → Prs w7 g (.slice (some ⟨tb, tof, none⟩) l.length c0) l (k + 1 + n1) := fun he => by
                  subst he; exact h6.go hs7 hc7 (by omega)
                have hz7 := hs7.size
                clear hs7 h6 hCC
                have hb8 : Below w7.heap.size w7 (w7.alloc (.cells #[.string o2, .string t2, .slice a2 m2 c2] 30)) := (Below.refl _ _).alloc (Nat.le_refl _) _
                have hk8 := Cells.new w7 #[.string o2, .string t2, .slice a2 m2 c2] 30
                have H8 := Lib.hid (And.intro (hC9.step (Save.of hb8)) (And.intro (PrC.below' hc7 hb8) (And.intro (fun he => (hP7 he).step hb8) (And.intro hk8 (fun he => ExpIn.below hb8 x1 _ (hX7 he))))))
                clear hb8 hk8 hX7 hP7 hC9 hc7
                go_wp2_with fail
                obtain ⟨hC9, hc9, hP8, hk8, hX8⟩ := H8.out
                clear H8
                generalize w7.alloc (.cells #[.string o2, .string t2, .slice a2 m2 c2] 30) = w8 at *
                have hR2 := HR2.out
                have hN : ∃ (kk : Nat) (ee : Int), Calls Tryz.prog 75 #[.pointer (some ⟨g, 0, none⟩), .string sRp] w8 (fun r w' => r = .returned (.tuple #[]) ∧ PrC w' g (.slice (some ⟨tb, tof, none⟩) l.length c0) (kk : Nat) ee ∧ Save g w8 w') ∧ k ≤ kk ∧
                    ((ee = 0 ∧ e1 = 0 ∧ R = (x1, kk - k, 0)) ∨ (ee ≠ 0 ∧ R = (zeroX, kk - k, ee))) := by
                  by_cases he : e1 = 0
                  · subst he
                    have hRe2 : R = (if isS (l.drop (k + (1 + n1))) sRp = false then badX (l.drop (k + (1 + n1))) (1 + n1) else (x1, 1 + n1 + 1, 0)) := by
                      rw [hR2, andX_ok (by rfl)]; rfl
                    have hN := need_ok w8 g _ l (k + 1 + n1) sRp (hP8 rfl)
                    rw [show k + (1 + n1) = k + 1 + n1 by omega] at hRe2
                    by_cases s3 : isS (l.drop (k + 1 + n1)) sRp = false
                    · rw [if_pos s3, badX_e] at hRe2
                      rw [s3, if_neg (by simp), if_neg (by simp)] at hN
                      refine ⟨k + 1 + n1, _, hN, by omega, .inr ⟨wrE_ne _, ?_⟩⟩
                      rw [hRe2, show k + 1 + n1 - k = 1 + n1 by omega]
                    · have s3t : isS (l.drop (k + 1 + n1)) sRp = true := by simpa using s3
                      rw [if_neg s3] at hRe2
                      rw [s3t, if_pos rfl, if_pos rfl] at hN
                      refine ⟨k + 1 + n1 + 1, _, hN, by omega, .inl ⟨rfl, rfl, ?_⟩⟩
                      rw [hRe2, show k + 1 + n1 + 1 - k = 1 + n1 + 1 by omega]
                  · rw [andX_bad (by exact he)] at hR2
                    refine ⟨k + 1 + n1, e1, need_no2 w8 g _ _ e1 sRp hc9 he ⟨_, _, _, rfl⟩, by omega, .inr ⟨he, ?_⟩⟩
                    rw [hR2]
                    exact Prod.ext rfl (Prod.ext (by simp only [upX]; omega) rfl)
                obtain ⟨kk, ee, hN, hkk, hcase⟩ := hN
                refine hN.mono ?_
                rintro _ w9 ⟨rfl, hc10, hs10⟩
                have hk9 := hs10.cells hk8 (by omega)
                have hX9 : e1 = 0 → ExpIn (fun b => w6.heap.size ≤ b) w9 x1 (expV o2 t2 (.slice a2 m2 c2)) := fun he =>
                  ExpIn.move hs10.size (fun b hb hlt => hs10.2 b hlt (by omega)) (fun b hb _ => hb) x1 _ (hX8 he)
                replace hC9 := hC9.step hs10
                replace hc9 := hc10
                have HC := Lib.hid (And.intro hcase hX9)
                have hk9l := hk9.lt
                clear hs10 hk8 hX8 hP8 hc10 hcase hX9 hN hR2 HR2
                have hk9c0 := hk9.cell 0 _ rfl
                have hk9f0 := hk9.frozen 0
                have hk9c1 := hk9.cell 1 _ rfl
                have hk9f1 := hk9.frozen 1
                have hk9c2 := hk9.cell 2 _ rfl
                have hk9f2 := hk9.frozen 2
                clear hk9
                have hres := hC9.rs.res
                have hrl := hres.lt
                have hfi := hC9.tok
                have hfl := hfi.lt
                have hgl := hc9.lt
                have HR := Lib.hid (And.intro hC9 hc9)
                have hresc0 := hres.cell 0 _ rfl
                have hresf0 := hres.frozen 0
                have hresc1 := hres.cell 1 _ rfl
                have hresf1 := hres.frozen 1
                have hresc2 := hres.cell 2 _ rfl
                have hresf2 := hres.frozen 2
                have hfic0 := hfi.cell 0 _ rfl
                have hfif0 := hfi.frozen 0
                have hfic1 := hfi.cell 1 _ rfl
                have hfif1 := hfi.frozen 1
                have hfic2 := hfi.cell 2 _ rfl
                have hfif2 := hfi.frozen 2
                have hc9c0 := hc9.cell 0 _ rfl
                have hc9f0 := hc9.frozen 0
                have hc9c1 := hc9.cell 1 _ rfl
                have hc9f1 := hc9.frozen 1
                have hc9c2 := hc9.cell 2 _ rfl
                have hc9f2 := hc9.frozen 2
                clear hC9 hc9 hres hfi
                go_wp2
                obtain ⟨hC9, hc9⟩ := HR.out
                have hR9 := hC9.rs
                have hq := ((hR9.res.setI 0 (.string o2)).setI 1 (.string t2)).setI 2 (.slice a2 m2 c2)
                have hx := hq.cell 0 _ rfl
                have hy := hq.cell 1 _ rfl
                have hz := hq.cell 2 _ rfl
                refine bodyPost_ret (v := .agg #[.string o2, .string t2, .slice a2 m2 c2]) (by simp [results, Tryz.results132, go_sem, hx, hy, hz]) rfl ?_
                have hS9 := hR9.fin [.string o2, .string t2, .slice a2 m2 c2]
                have hP9 := hR9.prc hc9 [.string o2, .string t2, .slice a2 m2 c2]
                show XP g (.slice (some ⟨tb, tof, none⟩) l.length c0) k _ w _ (setAll w9 w.heap.size 0 [.string o2, .string t2, .slice a2 m2 c2])
                obtain ⟨hcase, hX9⟩ := HC.out
                have hkx : k + (kk - k) = kk := by omega
                rcases hcase with ⟨he0, he1, hRR⟩ | ⟨he, hRR⟩
                · subst he0
                  rw [hRR]
                  exact ⟨hS9, by show PrC _ g _ ((k + (kk - k) : Nat)) 0; rw [hkx]; exact hP9, _, _, _, _, _, rfl, fun _ => ExpIn.keep (Nat.le_of_lt hw6) hw6 (hX9 he1)⟩
                · rw [hRR]
                  exact ⟨hS9, by show PrC _ g _ ((k + (kk - k) : Nat)) ee; rw [hkx]; exact hP9, _, _, _, _, _, rfl, fun h => absurd h he⟩
            · have s2f : isS (l.drop k) sLp = false := by simpa using s2
              rw [if_neg s2, badX_e] at hR2
              rw [s2f] at hI
              have hw2 : wrE (l.drop k) ≠ 0 := wrE_ne _
              refine hI.mono ?_
              rintro _ w5 ⟨rfl, hb5⟩
              have h5 := h4.step hb5
              replace hC9 := hC9.step (Save.of hb5)
              have hW := wrong_ok w5 g _ l k h5
              generalize wrE (l.drop k) = ee at *
              have HR2 := Lib.hid (And.intro hR2 hw2)
              clear hI h4 hb5 hR2 hw2 h5
              go_wp2_with fail
              refine hW.mono ?_
              rintro _ w6 ⟨rfl, hc9, hs6⟩
              replace hC9 := hC9.step hs6
              clear hW hs6
              have hres := hC9.rs.res
              have hrl := hres.lt
              have hfi := hC9.tok
              have hfl := hfi.lt
              have hgl := hc9.lt
              have HR := Lib.hid (And.intro hC9 hc9)
              have hresc0 := hres.cell 0 _ rfl
              have hresf0 := hres.frozen 0
              have hresc1 := hres.cell 1 _ rfl
              have hresf1 := hres.frozen 1
              have hresc2 := hres.cell 2 _ rfl
              have hresf2 := hres.frozen 2
              have hfic0 := hfi.cell 0 _ rfl
              have hfif0 := hfi.frozen 0
              have hfic1 := hfi.cell 1 _ rfl
              have hfif1 := hfi.frozen 1
              have hfic2 := hfi.cell 2 _ rfl
              have hfif2 := hfi.frozen 2
              have hc9c0 := hc9.cell 0 _ rfl
              have hc9f0 := hc9.frozen 0
              have hc9c1 := hc9.cell 1 _ rfl
              have hc9f1 := hc9.frozen 1
              have hc9c2 := hc9.cell 2 _ rfl
              have hc9f2 := hc9.frozen 2
              clear hC9 hc9 hres hfi
              go_wp2
              obtain ⟨hC9, hc9⟩ := HR.out
              have hR9 := hC9.rs
              have hq := ((hR9.res.setI 0 (.string ⟨#[]⟩)).setI 1 (.string ⟨#[]⟩)).setI 2 (.slice none 0 0)
              have hx := hq.cell 0 _ rfl
              have hy := hq.cell 1 _ rfl
              have hz := hq.cell 2 _ rfl
              refine bodyPost_ret (v := .agg #[.string ⟨#[]⟩, .string ⟨#[]⟩, .slice none 0 0]) (by simp [results, Tryz.results132, go_sem, hx, hy, hz]) rfl ?_
              have hS9 := hR9.fin [.string ⟨#[]⟩, .string ⟨#[]⟩, .slice none 0 0]
              have hP9 := hR9.prc hc9 [.string ⟨#[]⟩, .string ⟨#[]⟩, .slice none 0 0]
              show XP g (.slice (some ⟨tb, tof, none⟩) l.length c0) k _ w _ (setAll w6 w.heap.size 0 [.string ⟨#[]⟩, .string ⟨#[]⟩, .slice none 0 0])
              rw [HR2.out.1]
              exact ⟨hS9, hP9, _, _, _, _, _, rfl, fun e => absurd e HR2.out.2⟩
end Go.Proofs.YtjlikcfabekhlaaGreatDoor

/- The parser of expressions: all its methods, and Parse (layer 12). -/
namespace Go.Proofs.YtjlikcfabekhlaaGreatDoor
open Go.RowKit Go.Tab

theorem out_no (nt : Nt) (l : List Tok) (d : Nat) : (parX 0 nt l d).2.2 = -1 := by rw [parX]
/-- All methods, with fuel so much. -/
theorem all_steps : ∀ m, ChoiceC m ∧ TermC m ∧ TightC m ∧ PostC m ∧ PrimeC m ∧ ManyC m := by
  intro m
  induction m using Nat.strongRecOn with
  | ind m ih =>
    cases m with
    | zero =>
      refine ⟨?_, ?_, ?_, ?_, ?_, ?_⟩
      · intro w g lv l k d _ _ hne; exact absurd (out_no _ _ _) hne
      · intro w g lv l k d n bp bd bt _ _ _ _ _ hne; exact absurd (out_no _ _ _) hne
      · intro w g lv l k d _ _ hne; exact absurd (out_no _ _ _) hne
      · intro w g lv l k d _ _ hne; exact absurd (out_no _ _ _) hne
      · intro w g lv l k d _ _ hne; exact absurd (out_no _ _ _) hne
      · intro w g lv l k d s _ _ _ _ hne; exact absurd (out_no _ _ _) hne
    | succ m =>
      have hm := ih m (Nat.lt_succ_self m)
      have hc : ∀ j, j ≤ m → ChoiceC j := fun j hj => (ih j (by omega)).1
      have ht : ∀ j, j ≤ m → TermC j := fun j hj => (ih j (by omega)).2.1
      exact ⟨choice_step m hm.2.1 hm.1, term_step m hm.2.2.1 ht, tight_step m hm.2.2.1 hm.2.2.2.1, post_step m hm.2.2.2.2.1 hc, prime_step m hm.2.2.2.2.2 hm.1, many_step m hc⟩

/-- What is told of tokens. -/
def parE (l : List Tok) : GotX := if 1000 < l.length then (zeroX, 1000, 4) else if (parX (fuelX .choice l) .choice l 0).2.2 = 0 then parX (fuelX .choice l) .choice l 0 else (zeroX, (parX (fuelX .choice l) .choice l 0).2)
theorem parE_le (l : List Tok) : (parE l).2.2 = 0 → (parE l).2.1 ≤ l.length := by
  unfold parE
  have hf := parX_fine (fuelX .choice l) .choice l 0 (Nat.le_refl _) (by simp only [Nt.okX])
  split
  · intro h; cases h
  · split
    · intro _; exact hf.2.1
    · next h => intro h2; exact absurd h2 h
/-- What Parse hands back. -/
def ParX (w : World) (r : GotX) (e : Ending) (w' : World) : Prop :=
  Below w.heap.size w w' ∧ ∃ o t a n c, e = .returned (.tuple #[exV o t (.slice a n c), .int .i64 (r.2.1 : Nat), .int .i64 r.2.2]) ∧ ExpIn (fun b => w.heap.size ≤ b) w' r.1 (expV o t (.slice a n c))
set_option maxHeartbeats 4000000 in
set_option maxRecDepth 100000 in
theorem exprParse_any (w : World) (lv : Value) (l : List Tok) (h : ToksAt w lv l) (ho : ∀ b, lv.ownBlock = some b → b < w.heap.size) (hT : Tab w) (hTg : 1 < w.heap.size) (hs : l.length ≤ 100000) (hsh : ∀ t ∈ l, t.text.size ≤ 100000) :
    Calls Tryz.prog 15 #[lv] w (ParX w (parE l)) := by
  obtain ⟨a0, c0, rfl, hl1, hl2, -⟩ := h.len
  unfold maxLen at hl2
  by_cases hbig : 1000 < l.length
  · have hR : parE l = (zeroX, 1000, 4) := by unfold parE; rw [if_pos hbig]
    have hq := Cells.new w zeroC 30
    have HR := Lib.hid hR
    clear hR
    go_enter Tryz.func15, Tryz.ntmps15
    go_wp2
    have hx := hq.cell 0 _ rfl
    have hy := hq.cell 1 _ rfl
    have hz := hq.cell 2 _ rfl
    refine bodyPost_ret (v := .tuple #[.agg #[.string ⟨#[]⟩, .string ⟨#[]⟩, .slice none 0 0], .int .i64 1000, .int .i64 4]) (by simp [results, Tryz.results15, go_sem, hx, hy, hz]) rfl ?_
    rw [HR.out]
    exact ⟨(Below.refl _ w).alloc (Nat.le_refl _) _, _, _, _, _, _, rfl, ExpIn.leaf _ _ _ _⟩
  · have hf := parX_fine (fuelX .choice l) .choice l 0 (Nat.le_refl _) (by simp only [Nt.okX])
    have hR : parE l = if (parX (fuelX .choice l) .choice l 0).2.2 = 0 then parX (fuelX .choice l) .choice l 0 else (zeroX, (parX (fuelX .choice l) .choice l 0).2) := by unfold parE; rw [if_neg hbig]
    have hCC := (all_steps (fuelX .choice l)).1
    have hne := hf.1
    have hb2 : Below w.heap.size w ((w.alloc (.cells zeroC 30)).alloc (.cells #[.slice a0 l.length c0, .int .i64 0, .int .i64 0] 69)) := ((Below.refl _ w).alloc (Nat.le_refl _) _).alloc (by simp) _
    have hq2 := (Cells.new w zeroC 30).alloc (.cells #[.slice a0 l.length c0, .int .i64 0, .int .i64 0] 69)
    have hp2 := Cells.new (w.alloc (.cells zeroC 30)) #[.slice a0 l.length c0, .int .i64 0, .int .i64 0] 69
    simp only [World.size_alloc] at hp2
    have hP2 : Prs ((w.alloc (.cells zeroC 30)).alloc (.cells #[.slice a0 l.length c0, .int .i64 0, .int .i64 0] 69)) (w.heap.size + 1) (.slice a0 l.length c0) l 0 :=
      ⟨hp2, h.below hb2 (Nat.le_refl _), fun b hb => by have := ho b hb; omega, Nat.zero_le _, hs, fun j hj => (hb2.cell hTg).trans (hT j hj), by omega, hsh⟩
    have hDD := hCC _ _ _ l 0 0 hP2 (by omega) (by rw [List.drop_zero]; exact hne)
    rw [List.drop_zero] at hDD
    have hle := hf.2.1
    generalize parX (fuelX .choice l) .choice l 0 = r at *
    obtain ⟨x1, n1, e1⟩ := r
    simp only at hR hne hle
    have HR := Lib.hid hR
    clear hR hCC hP2 hp2 hf
    go_enter Tryz.func15, Tryz.ntmps15
    go_wp2_with fail
    generalize (w.alloc (.cells zeroC 30)).alloc (.cells #[.slice a0 l.length c0, .int .i64 0, .int .i64 0] 69) = w2 at *
    refine hDD.mono ?_
    rintro _ w3 ⟨hs3, hc3, o, t, a, n, c, rfl, hX⟩
    simp only [Nat.zero_add] at hc3 hX
    have hq3 := hs3.cells hq2 (by omega)
    have hz2 := hq2.lt
    have hw2 := hb2.size
    have HB := Lib.hid (And.intro hb2 (And.intro hs3 hX))
    clear hq2 hb2 hs3 hX hDD h ho
    have hql := hq3.lt
    have hgl := hc3.lt
    have hQ3 := Lib.hid hq3
    have hC3 := Lib.hid hc3
    have hq3c0 := hq3.cell 0 _ rfl
    have hq3f0 := hq3.frozen 0
    have hq3c1 := hq3.cell 1 _ rfl
    have hq3f1 := hq3.frozen 1
    have hq3c2 := hq3.cell 2 _ rfl
    have hq3f2 := hq3.frozen 2
    have hc3c0 := hc3.cell 0 _ rfl
    have hc3f0 := hc3.frozen 0
    have hc3c1 := hc3.cell 1 _ rfl
    have hc3f1 := hc3.frozen 1
    have hc3c2 := hc3.cell 2 _ rfl
    have hc3f2 := hc3.frozen 2
    clear hq3 hc3
    by_cases he : e1 = 0
    · subst he
      go_wp2_with fail
      go_region
      go_wp2
      have hqq := ((((((hQ3.out.setI 0 (.string o)).setI 1 (.string t)).setI 2 (.slice a n c)).setI 0 (.string o)).setI 1 (.string t)).setI 2 (.slice a n c)).drew
      have hx := hqq.cell 0 _ rfl
      have hy := hqq.cell 1 _ rfl
      have hz := hqq.cell 2 _ rfl
      refine bodyPost_ret (v := .tuple #[.agg #[.string o, .string t, .slice a n c], .int .i64 (n1 : Nat), .int .i64 0]) (by simp [results, Tryz.results15, go_sem, hx, hy, hz]) rfl ?_
      obtain ⟨hb2, hs3, hX⟩ := HB.out
      have hB9 := (setAll_below w.heap.size w.heap.size (Nat.le_refl _) [.string o, .string t, .slice a n c] 0 _ _ (setAll_below w.heap.size w.heap.size (Nat.le_refl _) [.string o, .string t, .slice a n c] 0 _ _ (hs3.chain hb2 (Nat.le_succ _)))).drew
      show ParX w _ _ ((setAll (setAll w3 w.heap.size 0 [.string o, .string t, .slice a n c]) w.heap.size 0 [.string o, .string t, .slice a n c]).drew)
      have hX9 : ExpIn (fun b => w.heap.size ≤ b) (setAll (setAll w3 w.heap.size 0 [.string o, .string t, .slice a n c]) w.heap.size 0 [.string o, .string t, .slice a n c]) x1 (expV o t (.slice a n c)) := by
        refine ExpIn.move (P := fun b => w2.heap.size ≤ b) (w := w3) ?_ (fun b hb _ => ?_) (fun b hb _ => ?_) x1 _ (hX trivial)
        · rw [setAll_size, setAll_size]; exact Nat.le_refl _
        · rw [setAll_other _ _ _ _ _ (by omega), setAll_other _ _ _ _ _ (by omega)]
        · show w.heap.size ≤ b
          omega
      rw [HR.out, if_pos trivial]
      generalize setAll (setAll w3 w.heap.size 0 [.string o, .string t, .slice a n c]) w.heap.size 0 [.string o, .string t, .slice a n c] = w9 at *
      exact ⟨hB9, o, t, a, n, c, rfl, ExpIn.below (Below.refl _ _).drew x1 _ hX9⟩
    · have hen : (e1 != 0) = true := by simpa using he
      go_wp2_with fail
      go_region
      go_wp2
      have hqq := ((((((hQ3.out.setI 0 (.string o)).setI 1 (.string t)).setI 2 (.slice a n c)).setI 0 (.string ⟨#[]⟩)).setI 1 (.string ⟨#[]⟩)).setI 2 (.slice none 0 0)).drew
      have hx := hqq.cell 0 _ rfl
      have hy := hqq.cell 1 _ rfl
      have hz := hqq.cell 2 _ rfl
      refine bodyPost_ret (v := .tuple #[.agg #[.string ⟨#[]⟩, .string ⟨#[]⟩, .slice none 0 0], .int .i64 (n1 : Nat), .int .i64 e1]) (by simp [results, Tryz.results15, go_sem, hx, hy, hz]) rfl ?_
      obtain ⟨hb2, hs3, hX⟩ := HB.out
      have hB9 := (setAll_below w.heap.size w.heap.size (Nat.le_refl _) [.string ⟨#[]⟩, .string ⟨#[]⟩, .slice none 0 0] 0 _ _ (setAll_below w.heap.size w.heap.size (Nat.le_refl _) [.string o, .string t, .slice a n c] 0 _ _ (hs3.chain hb2 (Nat.le_succ _)))).drew
      show ParX w _ _ ((setAll (setAll w3 w.heap.size 0 [.string o, .string t, .slice a n c]) w.heap.size 0 [.string ⟨#[]⟩, .string ⟨#[]⟩, .slice none 0 0]).drew)
      rw [HR.out, if_neg he]
      exact ⟨hB9, _, _, _, _, _, rfl, ExpIn.leaf _ _ _ _⟩
end Go.Proofs.YtjlikcfabekhlaaGreatDoor

/- Plain law of ExprBraces: an expression in brackets (layer 12). -/
namespace Go.Proofs.YtjlikcfabekhlaaGreatDoor

theorem ne10 : (-1 : Int) ≠ 0 := by decide
theorem ne01 : (0 : Int) ≠ -1 := by decide
def idX (x : Exp) (k : Nat) : GotX := (x, k, 0)
theorem andX_id (g : GotX) (f : Exp → Nat → GotX) : andX (andX g idX) f = andX g f := by
  by_cases h : g.2.2 = 0
  · rw [andX_ok h, andX_ok h, andX_ok rfl]; rfl
  · rw [andX_bad h, andX_bad h, andX_bad (by exact h)]
theorem andX_to_id {g : GotX} {f : Exp → Nat → GotX} (h : g.2.2 = 0 → f g.1 g.2.1 = (g.1, g.2.1, 0)) : andX g f = andX g idX := by
  by_cases he : g.2.2 = 0
  · rw [andX_ok he, andX_ok he, h he]; rfl
  · rw [andX_bad he, andX_bad he]
theorem andX_err (g : GotX) : (andX g idX).2.2 = g.2.2 := by
  by_cases he : g.2.2 = 0
  · rw [andX_ok he, he]; rfl
  · rw [andX_bad he]
/-- A prime behind which nothing stands is a whole choice. -/
theorem up_term {m : Nat} {r : List Tok} {d : Nat} {g : GotX} (hm : parX (m + 1) .prime r d = g) (h : g.2.2 = 0 → r.drop g.2.1 = []) (b : isS r sBang = false) (c : isS r sMinus = false) :
    ∀ j, j ≤ 6 → parX (m + 4 + j) (.term (7 - j)) r d = andX g idX := by
  intro j
  induction j with
  | zero =>
    intro _
    have e1 : parX (m + 4) (.term 7) r d = parX (m + 3) .tight r d := by rw [parX, if_pos (Nat.le_refl _)]
    have e2 : parX (m + 3) .tight r d = parX (m + 2) .post r d := by rw [parX, if_pos ⟨b, c⟩]
    show parX (m + 4) (.term 7) r d = _
    rw [e1, e2, parX, hm]
    refine andX_to_id fun he => ?_
    rw [h he]
    simp [parX, isS, upX]
  | succ j ih =>
    intro hj
    have h7 : ¬ 7 ≤ 7 - (j + 1) := by omega
    show parX (m + 4 + j + 1) _ _ _ = _
    rw [parX, if_neg h7, show 7 - (j + 1) + 1 = 7 - j by omega, ih (by omega), andX_id]
    refine andX_to_id fun he => ?_
    rw [h he, show m + 4 + j = (m + 3 + j) + 1 by omega, parX]
    simp [isL, upX]
theorem up_choice {m : Nat} {r : List Tok} {d : Nat} {g : GotX} (hm : parX (m + 1) .prime r d = g) (h : g.2.2 = 0 → r.drop g.2.1 = []) (b : isS r sBang = false) (c : isS r sMinus = false) :
    parX (m + 11) .choice r d = andX g idX := by
  have h1 := up_term hm h b c 6 (by omega)
  rw [parX, show m + 10 = m + 4 + 6 by omega, show (1 : Nat) = 7 - 6 by omega, h1, andX_id]
  refine andX_to_id fun he => ?_
  rw [h he]
  simp [isS]
/-- No expression begins with a closing bracket. -/
theorem par_first {r : List Tok} (hr : isS r sRb = true) : ∀ (n : Nat) (d : Nat), (parX n .choice r d).2.2 ≠ 0 ∧ (∀ lv, (parX n (.term lv) r d).2.2 ≠ 0) ∧ (parX n .tight r d).2.2 ≠ 0 ∧ (parX n .post r d).2.2 ≠ 0 ∧ (parX n .prime r d).2.2 ≠ 0 := by
  intro n
  induction n with
  | zero => intro d; exact ⟨ne10, fun _ => ne10, ne10, ne10, ne10⟩
  | succ n ih =>
    intro d
    obtain ⟨h1, h2, h3, h4, h5⟩ := ih d
    cases r with
    | nil => cases hr
    | cons t r =>
      simp only [isS, Bool.and_eq_true, decide_eq_true_eq] at hr
      have hb : isS (t :: r) sBang = false := by simp [isS, hr]
      have hm : isS (t :: r) sMinus = false := by simp [isS, hr]
      have hl : isS (t :: r) sLb = false := by simp [isS, hr]
      have hp : isS (t :: r) sLp = false := by simp [isS, hr]
      refine ⟨?_, fun lv => ?_, ?_, ?_, ?_⟩
      · rw [parX, andX_bad (h2 1)]; exact h2 1
      · rw [parX]
        split
        · exact h3
        · rw [andX_bad (h2 _)]; exact h2 _
      · rw [parX, if_pos ⟨hb, hm⟩]; exact h4
      · rw [parX, andX_bad h5]; exact h5
      · simp only [parX, hr, hl, hp]
        simp only [show ((4 : Int) = 1) = False by simp, show ((4 : Int) = 2) = False by simp, show ((4 : Int) = 3) = False by simp, if_false, Bool.false_eq_true]
        exact badX_ne _ _
def lpT : Tok := ⟨4, sLp, 0⟩
def rpT : Tok := ⟨4, sRp, 0⟩
def lbT : Tok := ⟨4, sLb, 0⟩
def rbT : Tok := ⟨4, sRb, 0⟩
theorem prime_lp (m : Nat) (r' : List Tok) (d : Nat) : parX (m + 1) .prime (lpT :: r') d = if 64 ≤ d then deepX 0 else andX (upX 1 (parX m .choice r' (d + 1))) fun a k => if isS ((lpT :: r').drop k) sRp = false then badX ((lpT :: r').drop k) k else (a, k + 1, 0) := by
  simp only [parX]
  rw [if_neg (by decide), if_neg (by decide), if_neg (by decide), if_neg (show ¬ isS (lpT :: r') sLb = true by simp [isS, lpT]), if_pos (show isS (lpT :: r') sLp = true by simp [isS, lpT])]
theorem prime_lb (m : Nat) (r' : List Tok) (d : Nat) : parX (m + 1) .prime (lbT :: r') d = andX (parX m (.many sRb) (lbT :: r') d) fun x k => (.mk oList oNo x.kids, k, 0) := by
  simp only [parX]
  rw [if_neg (by decide), if_neg (by decide), if_neg (by decide), if_pos (show isS (lbT :: r') sLb = true by simp [isS, lbT])]
theorem stp_rp : StpX [rpT] := ⟨rfl, rfl, rfl, rfl, fun v => by
  have h : lvN sRp = -1 := by kernel_rfl
  simp only [isL, rpT, h]
  rw [if_neg]
  omega⟩
theorem stp_rb : StpX [rbT] := ⟨rfl, rfl, rfl, rfl, fun v => by
  have h : lvN sRb = -1 := by kernel_rfl
  simp only [isL, rbT, h]
  rw [if_neg]
  omega⟩
/-- An expression of all tokens, in brackets of either kind. -/
theorem par_wrap (l : List Tok) (x : Exp) (h : parE l = (x, l.length, 0)) (hl : l.length ≤ 900) :
    (((parE (lpT :: (l ++ [rpT]))).2.2 = 5 ∧ (parE (lbT :: (l ++ [rbT]))).2.2 = 5) ∨
     (parE (lpT :: (l ++ [rpT])) = (x, l.length + 2, 0) ∧ parE (lbT :: (l ++ [rbT])) = (.mk oList oNo [x], l.length + 2, 0))) := by
  obtain ⟨F, hF⟩ : ∃ F, F = fuelX .choice l := ⟨_, rfl⟩
  have hp : parX F .choice l 0 = (x, l.length, 0) := by
    unfold parE at h
    rw [if_neg (by omega), ← hF] at h
    by_cases h0 : (parX F .choice l 0).2.2 = 0
    · rw [if_pos h0] at h; exact h
    · rw [if_neg h0] at h
      exact absurd (congrArg (fun g : GotX => g.2.2) h) h0
  have hx := par_ext [rpT] [rbT] stp_rp stp_rb F .choice l 0 1 trivial (by omega) (by rw [hp])
  rw [hp] at hx
  obtain ⟨-, hx⟩ := hx
  have hne : l ≠ [] := by
    rintro rfl
    have := parX_le F .choice [] 0 trivial (by rw [hp]; exact ne01)
    have h3 := this.2 (by rw [hp])
    rw [hp] at h3
    simp [Nt.least] at h3
  have hF2 : ∀ a b : Tok, fuelX .choice (a :: (l ++ [b])) = F + 21 + 11 := fun a b => by
    rw [hF]; unfold fuelX; simp; omega
  -- the round brackets
  obtain ⟨G1, hG1⟩ : ∃ G, parX F .choice (l ++ [rpT]) 1 = G := ⟨_, rfl⟩
  obtain ⟨G2, hG2⟩ : ∃ G, parX F .choice (l ++ [rbT]) 1 = G := ⟨_, rfl⟩
  rw [hG1, hG2] at hx
  have hok : G1.2.2 ≠ -1 ∧ G2.2.2 ≠ -1 := by
    rcases hx with ⟨rfl, rfl⟩ | ⟨rfl, h5⟩
    · exact ⟨ne01, ne01⟩
    · rw [h5]; decide
  have f1 : parX (F + 21) .choice (l ++ [rpT]) 1 = G1 := by rw [parX_fuel (n := F) (by omega) (by rw [hG1]; exact hok.1), hG1]
  have f2 : parX (F + 20 - 1 + 1) .choice (l ++ [rbT]) 1 = G2 := by rw [parX_fuel (n := F) (by omega) (by rw [hG2]; exact hok.2), hG2]
  have hP : parX (F + 21 + 1) .prime (lpT :: (l ++ [rpT])) 0 = andX (upX 1 G1) fun a k => if isS ((lpT :: (l ++ [rpT])).drop k) sRp = false then badX ((lpT :: (l ++ [rpT])).drop k) k else (a, k + 1, 0) := by
    rw [prime_lp, if_neg (by omega), f1]
  have hB : parX (F + 21 + 1) .prime (lbT :: (l ++ [rbT])) 0 = andX (upX 1 (andX G2 fun a k => if isS ((l ++ [rbT]).drop k) sComma then upX (k + 1) (parX (F + 19) (.mloop sRb ([] ++ [a])) ((l ++ [rbT]).drop (k + 1)) 0) else if isS ((l ++ [rbT]).drop k) sRb then (.mk oNo oNo ([] ++ [a]), k + 1, 0) else badX ((l ++ [rbT]).drop k) k)) fun x k => (.mk oList oNo x.kids, k, 0) := by
    have hm : parX (F + 20 + 1) (.many sRb) (lbT :: (l ++ [rbT])) 0 = upX 1 (andX G2 fun a k => if isS ((l ++ [rbT]).drop k) sComma then upX (k + 1) (parX (F + 19) (.mloop sRb ([] ++ [a])) ((l ++ [rbT]).drop (k + 1)) 0) else if isS ((l ++ [rbT]).drop k) sRb then (.mk oNo oNo ([] ++ [a]), k + 1, 0) else badX ((l ++ [rbT]).drop k) k) := by
      rw [parX, if_neg (by omega)]
      have hs : isS ((lbT :: (l ++ [rbT])).drop 1) sRb = false := by
        simp only [List.drop_succ_cons, List.drop_zero]
        cases l with
        | nil => exact absurd rfl hne
        | cons t r =>
          by_cases hq : isS (t :: r) sRb = true
          · exact absurd (by rw [hp]) (par_first hq F 0).1
          · simpa [isS] using hq
      rw [hs]
      simp only [Bool.false_eq_true, if_false, List.drop_succ_cons, List.drop_zero]
      rw [show F + 20 = F + 19 + 1 by omega, parX, show (0 : Nat) + 1 = 1 from rfl, show F + 19 = F + 20 - 1 by omega]
      rw [show F + 20 - 1 = F + 20 - 1 from rfl]
      have f3 : parX (F + 20 - 1) .choice (l ++ [rbT]) 1 = G2 := by rw [parX_fuel (n := F) (by omega) (by rw [hG2]; exact hok.2), hG2]
      rw [f3]
    rw [prime_lb, show F + 21 = F + 20 + 1 by omega, hm]
  have lenw : ∀ a b : Tok, ¬ 1000 < (a :: (l ++ [b])).length := fun a b => by simp; omega
  rcases hx with ⟨e1, e2⟩ | ⟨e1, e2⟩
  · right
    have hd : ∀ q : Tok, (l ++ [q]).drop l.length = [q] := fun q => by simp
    constructor
    · have hq : parX (F + 21 + 1) .prime (lpT :: (l ++ [rpT])) 0 = (x, l.length + 2, 0) := by
        rw [hP, e1]
        simp only [upX]
        rw [andX_ok rfl]
        simp only [show 1 + l.length = l.length + 1 by omega, List.drop_succ_cons, hd]
        rfl
      have hc := up_choice hq (by intro _; simp) rfl rfl
      unfold parE
      rw [if_neg (lenw _ _), hF2, show F + 21 + 11 = F + 21 + 11 from rfl, hc, andX_ok rfl]
      exact if_pos rfl
    · have hq : parX (F + 21 + 1) .prime (lbT :: (l ++ [rbT])) 0 = (.mk oList oNo [x], l.length + 2, 0) := by
        rw [hB, e2, andX_ok (g := (x, l.length, 0)) rfl]
        simp only [hd]
        rw [if_neg (by decide), if_pos (by decide)]
        simp only [upX]
        rw [andX_ok rfl]
        simp only [Exp.kids, List.nil_append]
        rw [show 1 + (l.length + 1) = l.length + 2 by omega]
      have hc := up_choice hq (by intro _; simp) rfl rfl
      unfold parE
      rw [if_neg (lenw _ _), hF2, hc, andX_ok rfl]
      exact if_pos rfl
  · left
    subst e1
    have h5 : G1.2.2 ≠ 0 := by rw [e2]; decide
    constructor
    · have hq : parX (F + 21 + 1) .prime (lpT :: (l ++ [rpT])) 0 = (zeroX, (upX 1 G1).2) := by rw [hP, andX_bad (by exact h5)]
      have hc := up_choice hq (fun h => absurd (show G1.2.2 = 0 from h) h5) rfl rfl
      unfold parE
      rw [if_neg (lenw _ _), hF2, hc]
      have : (andX (zeroX, (upX 1 G1).2) idX).2.2 = 5 := by rw [andX_err]; exact e2
      rw [if_neg (by rw [this]; decide)]
      exact this
    · have hq : parX (F + 21 + 1) .prime (lbT :: (l ++ [rbT])) 0 = (zeroX, (upX 1 (zeroX, G1.2)).2) := by
        rw [hB, andX_bad h5, andX_bad (by exact h5)]
      have hc := up_choice hq (fun h => absurd (show G1.2.2 = 0 from h) h5) rfl rfl
      unfold parE
      rw [if_neg (lenw _ _), hF2, hc]
      have : (andX (zeroX, (upX 1 (zeroX, G1.2)).2) idX).2.2 = 5 := by rw [andX_err]; exact e2
      rw [if_neg (by rw [this]; decide)]
      exact this
end Go.Proofs.YtjlikcfabekhlaaGreatDoor

/- The reference's Plain of tokens, and tokens between two signs (layers 11 and 12). -/
namespace Go.Proofs.YtjlikcfabekhlaaGreatDoor
open Go.RowKit Go.Tab

/-- Neither ends of lines nor comments. -/
def plainB (t : Tok) : Bool := t.kind != 5 && (t.kind != 6 && t.kind != 7)
theorem take_filter (l : List Tok) (k : Nat) (h : k < l.length) : (l.take (k + 1)).filter plainB = (l.take k).filter plainB ++ (if plainB l[k] then [l[k]] else []) := by
  rw [take_snoc' l k h, List.filter_append]
  congr 1
  simp only [List.filter_cons, List.filter_nil]
set_option maxHeartbeats 4000000 in
set_option maxRecDepth 100000 in
theorem rPlain_any (v : Value) (l : List Tok) (w : World) (h : ToksAt w v l) (hs : l.length ≤ 100000) :
    Calls Tryz.prog 13 #[v] w fun e w' => ∃ v', e = .returned v' ∧ OwnT w.heap.size w' v' (l.filter plainB) ∧ Below w.heap.size w w' := by
  obtain ⟨a, cap, rfl, hl1, hl2, hl3⟩ := h.len
  unfold maxLen at hl2
  have HT := Lib.hid h
  clear h
  go_enter Tryz.func13, Tryz.ntmps13
  go_wp2_with fail
  go_loopw [3, 4] (fun o i wr => ∃ k : Nat, k ≤ l.length ∧ i = .int .i64 (k : Int) ∧ OwnT w.heap.size wr o ((l.take k).filter plainB) ∧ Below w.heap.size w wr) (fun _ i _ => l.length - (intOf i).toNat)
  case atStart => exact ⟨0, Nat.zero_le _, rfl, by simpa using OwnT.nil, Below.refl _ _⟩
  case round =>
    obtain ⟨k, hk, rfl, hown, hb⟩ := hrel
    obtain ⟨va, vc, rfl⟩ := hown.len
    by_cases hkl : k < l.length
    · obtain ⟨bb, off, rfl, hlt, q0, q1, q2⟩ := ToksAt.get (HT.out.below hb (Nat.le_refl _)) hkl
      have HF := Lib.hid (take_filter l k hkl)
      have hfl : ((l.take k).filter plainB).length ≤ 100000 := Nat.le_trans (List.length_filter_le _ _) (by rw [List.length_take]; omega)
      have HP := Lib.hid hfl
      generalize l[k] = t at *
      obtain ⟨tk, tt, tp⟩ := t
      simp only at q0 q1 q2 HF
      by_cases h5 : tk = 5
      · subst h5
        have hp : plainB ⟨5, tt, tp⟩ = false := rfl
        have e5 : ((5 : Int) != 5) = false := by decide
        have HX := Lib.hid (And.intro hown hb)
        clear hown hb
        go_wp2
        go_roundw
        case rel => exact ⟨k + 1, by omega, by go_num, by rw [HF.out, hp]; simpa using HX.out.1, HX.out.2⟩
        case measure => simp [intOf]; omega
      by_cases h6 : tk = 6
      · subst h6
        have hp : plainB ⟨6, tt, tp⟩ = false := rfl
        have e5 : ((6 : Int) != 5) = true := by decide
        have e6 : ((6 : Int) != 6) = false := by decide
        have HX := Lib.hid (And.intro hown hb)
        clear hown hb
        go_wp2
        go_roundw
        case rel => exact ⟨k + 1, by omega, by go_num, by rw [HF.out, hp]; simpa using HX.out.1, HX.out.2⟩
        case measure => simp [intOf]; omega
      by_cases h7 : tk = 7
      · subst h7
        have hp : plainB ⟨7, tt, tp⟩ = false := rfl
        have e5 : ((7 : Int) != 5) = true := by decide
        have e6 : ((7 : Int) != 6) = true := by decide
        have e7 : ((7 : Int) != 7) = false := by decide
        have HX := Lib.hid (And.intro hown hb)
        clear hown hb
        go_wp2
        go_roundw
        case rel => exact ⟨k + 1, by omega, by go_num, by rw [HF.out, hp]; simpa using HX.out.1, HX.out.2⟩
        case measure => simp [intOf]; omega
      have e5 : (tk != 5) = true := by simpa using h5
      have e6 : (tk != 6) = true := by simpa using h6
      have e7 : (tk != 7) = true := by simpa using h7
      have hp : plainB ⟨tk, tt, tp⟩ = true := by simp only [plainB, e5, e6, e7]; rfl
      clear h5 h6 h7
      go_wp2_with (with_reducible first | refine stop_append ?_)
      refine Stop.out ?_
      refine wpList_append_tok rfl _ _ rfl w.heap.size ((l.take k).filter plainB) ⟨tk, tt, tp⟩ (by exact hown.alloc _) wr.heap.size rfl (by simp [World.cell?_alloc_new]) (by simp [World.cell?_alloc_new]) (by simp [World.cell?_alloc_new]) (by have := HP.out; omega) (by have := hb.size; simp; omega) w (hb.alloc hb.size _) ?_
      intro v' w' hown' hb' hg'
      obtain ⟨a2, c2, rfl⟩ := hown'.len
      have HX := Lib.hid (And.intro hown' hb')
      clear hown' hb' hg' hown hb
      go_wp2
      go_roundw
      case rel => exact ⟨k + 1, by omega, by go_num, by rw [HF.out, hp]; simpa using HX.out.1, HX.out.2⟩
      case measure => simp [intOf]; omega
    · obtain rfl : k = l.length := by omega
      rw [List.take_length] at hown ⊢
      have HX := Lib.hid (And.intro hown hb)
      clear hown hb
      go_wp2
      go_ret
      exact ⟨_, rfl, HX.out.1, HX.out.2⟩

theorem ToksAt.row {w : World} {v : Value} {l : List Tok} (h : ToksAt w v l) : ∃ a cap, v = .slice a l.length cap ∧ l.length ≤ cap ∧ (a = none → cap = 0) ∧ ∀ x, a = some x → l ≠ [] → x.spot = none ∧ x.block < w.heap.size ∧
    ∀ j u, (l.flatMap tokC)[j]? = some u → w.cell? (x.add j) = some u := by
  obtain ⟨a, cap, rfl, h1, h2, h3, h4⟩ := h
  refine ⟨a, cap, rfl, h1, h3, fun x hx hne => ?_⟩
  obtain ⟨g1, g2, g3⟩ := h4 x hx hne
  refine ⟨g1, g2, fun j u hu => ?_⟩
  obtain ⟨b, off, sp⟩ := x
  simp only at g1 g2 g3
  subst g1
  rw [Addr.add_lit]
  have hj : j < l.length * 3 := by
    have := (List.getElem?_eq_some_iff.1 hu).1
    have hl : (l.flatMap tokC).length = l.length * 3 := by
      clear hu g3 h1 h3 h4 hne this
      induction l with
      | nil => rfl
      | cons t l ih => simp only [List.flatMap_cons, List.length_append, ih, tokC, List.length_cons, List.length_nil]; omega
    omega
  obtain ⟨f1, f2, f3⟩ := flat_tok l (j / 3) (by omega)
  obtain ⟨c1, c2, c3⟩ := g3 (j / 3) (by omega)
  have hm : j % 3 = 0 ∨ j % 3 = 1 ∨ j % 3 = 2 := by omega
  rcases hm with hm | hm | hm
  · rw [show j = j / 3 * 3 by omega] at hu ⊢
    rw [f1] at hu; cases hu; exact c1
  · rw [show j = j / 3 * 3 + 1 by omega] at hu ⊢
    rw [f2] at hu; cases hu; exact c2
  · rw [show j = j / 3 * 3 + 2 by omega] at hu ⊢
    rw [f3] at hu; cases hu; exact c3
theorem tokC_all {l : List Tok} : ∀ u ∈ l.flatMap tokC, u.oneCell' = true := by
  intro u hu
  obtain ⟨t, _, ht⟩ := List.mem_flatMap.1 hu
  exact tokC_one t u ht
section
variable {w : World} {ops : Array Oper} {rest : List Oper} {o : Oper} {a : Act} {Q : Exit → Act → World → Prop}
/-- 'append(s, x...)', of tokens. -/
theorem wpList_append_toks (hgd : Region.wanted o (yielded ops a.tmps) = true) (s x : Operand)
    (ho : o.op = .call { callee := .builtin .append, args := #[s, x], argTypes := #[23, 23] })
    (base : Nat) (l l2 : List Tok) (hown : OwnT base w (a.eval s) l) (hrow : ToksAt w (a.eval x) l2)
    (hm : l.length + l2.length ≤ 1000000) (hbase : base ≤ w.heap.size) (w0 : World) (hb : Below base w0 w)
    (hK : ∀ v' w', OwnT base w' v' (l ++ l2) → Below base w0 w' → w.grownBy w' (a.eval s).ownBlock → wpList Tryz.prog ops Q rest (a.put o.dst v') w') : wpList Tryz.prog ops Q (o :: rest) a w := by
  obtain ⟨i, hi1, hi2, hi3, hi4⟩ := info_parts Tryz.infoTok
  obtain ⟨ao, cap, hv, hc, hn, hx⟩ := hrow.row
  refine wpList_want hgd fun K hK' => ?_
  by_cases hl2 : l2 = []
  · subst hl2
    cases ao with
    | none =>
      have := hn rfl
      subst this
      have hrun := run_append_owned_none (P := Tryz.prog) (w := w) base 23 o.type 52 i 3 Tryz.underlying23 hi1 (a.eval s) l.length (l.flatMap tokC) hown
      unfold Oper.wp
      simp [execOp, ho, resolve, invoke, builtin, hv, hrun, Result.andThen]
      exact hK' _ _ (hK _ _ (by simpa using hown) hb ⟨rfl, rfl, rfl, Nat.le_refl _, fun _ _ _ => rfl⟩)
    | some ad =>
      refine wp_append_own w s x 23 ho base 52 i _ 3 32 Tryz.underlying23 hi1 hi2 hi3 hi4 rfl (by decide) (a.eval s) l.length (l.flatMap tokC) rfl hown ad 0 cap [] (by simpa using hv) (by simp) (by simp) (by simp) (by unfold maxLen; simp at hm; omega) (by simp at hm; omega) hbase ?_
      intro v' w' hown' hg _
      exact hK' _ _ (hK v' w' (by unfold OwnT; simpa using hown') (hb.trans (grown_below hg hbase (fun k hk => (World.ownsRow.lt hown k hk).1))) hg)
  cases ao with
  | none =>
    have := hn rfl
    subst this
    exact absurd (List.eq_nil_of_length_eq_zero (by omega)) hl2
  | some ad =>
    obtain ⟨g1, g2, g3⟩ := hx _ rfl hl2
    have hfl : (l2.flatMap tokC).length = l2.length * 3 := by
      clear hx g3 hrow hK hm hl2 hv hc
      induction l2 with
      | nil => rfl
      | cons t l ih => simp only [List.flatMap_cons, List.length_append, ih, tokC, List.length_cons, List.length_nil]; omega
    refine wp_append_own w s x 23 ho base 52 i _ 3 32 Tryz.underlying23 hi1 hi2 hi3 hi4 rfl (by decide) (a.eval s) l.length (l.flatMap tokC) rfl hown ad l2.length cap (l2.flatMap tokC) hv hfl g3 tokC_all (by unfold maxLen; omega) (by omega) hbase ?_
    intro v' w' hown' hg _
    refine hK' _ _ (hK v' w' ?_ (hb.trans (grown_below hg hbase (fun k hk => (World.ownsRow.lt hown k hk).1))) hg)
    unfold OwnT
    simpa using hown'
end
theorem OwnT.lit1 (w : World) (t : Tok) {base : Nat} (hb : base ≤ w.heap.size) : OwnT base (w.alloc (.cells #[.int .i64 t.kind, .string t.text, .int .i64 t.pos] 52)) (.slice (some ⟨w.heap.size, 0, none⟩) 1 1) [t] :=
  World.ownsRow_lit w _ 1 hb (by decide) (by simp)
set_option maxHeartbeats 4000000 in
set_option maxRecDepth 100000 in
theorem wrapped_any (v : Value) (l : List Tok) (s1 s2 : ByteArray) (w : World) (h : ToksAt w v l) (hs : l.length ≤ 100000) :
    Calls Tryz.prog 16 #[v, .string s1, .string s2] w fun e w' => ∃ v', e = .returned v' ∧ OwnT w.heap.size w' v' (⟨4, s1, 0⟩ :: (l ++ [⟨4, s2, 0⟩])) ∧ Below w.heap.size w w' := by
  obtain ⟨a, cap, rfl, hl1, hl2, hl3⟩ := h.len
  have h1 := h.below ((Below.refl _ w).alloc (Nat.le_refl _) (.cells #[.int .i64 4, .string s1, .int .i64 0] 52)) (Nat.le_refl _)
  have hO := OwnT.lit1 w ⟨4, s1, 0⟩ (Nat.le_refl _)
  clear h
  go_enter Tryz.func16, Tryz.ntmps16
  go_wp2_with (with_reducible first | refine stop_append ?_)
  refine Stop.out ?_
  refine wpList_append_toks rfl _ _ rfl w.heap.size [⟨4, s1, 0⟩] l hO (by exact h1) (by simp; omega) (by simp) w (by (repeat' (first | (with_reducible refine Below.setCell ?_ ?_ _) | (with_reducible refine Below.alloc ?_ ?_ _) | (with_reducible refine Below.drew ?_) | (with_reducible refine below_drewN ?_ _) | (with_reducible assumption) | (with_reducible exact Below.refl _ _) | (simp only [World.size_alloc, World.size_setCell, World.size_drew]; done) | (simp only [World.size_alloc, World.size_setCell, World.size_drew]; omega) | omega))) ?_
  intro v2 w2 hown2 hb2 hg2
  obtain ⟨a2, c2, rfl⟩ := hown2.len
  clear hO h1 hg2
  go_wp2_with (with_reducible first | refine stop_append ?_)
  refine Stop.out ?_
  refine wpList_append_tok rfl _ _ rfl w.heap.size ([⟨4, s1, 0⟩] ++ l) ⟨4, s2, 0⟩ (by exact hown2.alloc _) w2.heap.size rfl (by simp [World.cell?_alloc_new]) (by simp [World.cell?_alloc_new]) (by simp [World.cell?_alloc_new]) (by simp; omega) (by have := hb2.size; simp; omega) w (hb2.alloc hb2.size _) ?_
  intro v' w' hown' hb' hg'
  obtain ⟨a3, c3, rfl⟩ := hown'.len
  have HX := Lib.hid (And.intro hown' hb')
  clear hown' hb' hg' hown2
  go_wp2
  go_ret
  exact ⟨_, rfl, by simpa using HX.out.1, HX.out.2⟩
end Go.Proofs.YtjlikcfabekhlaaGreatDoor

/- Contracts of library functions at this program, laid in plain words by the shelf's two commands. -/
namespace Go.Proofs
open Go.Shelf
def Tryz.lays161_ren : Go.Shelf.Ren := ⟨fun | 161 => 166 | 231 => 184 | 227 => 172 | 233 => 185 | 235 => 186 | 228 => 183 | 197 => 197 | 151 => 191 | 260 => 202 | 152 => 181 | 137 => 89 | 119 => 196 | 224 => 194 | 225 => 193 | 217 => 119 | 266 => 143 | n => n, fun | 9 => 9 | 4 => 4 | 3 => 3 | 5 => 5 | 117 => 178 | 116 => 177 | 0 => 0 | 124 => 181 | 105 => 190 | 21 => 21 | 119 => 199 | 46 => 167 | 139 => 202 | 138 => 201 | n => n, fun | 3 => 4 | 4 => 5 | n => n⟩
theorem Tryz.lays161 : Go.Proofs.Lays.n161 Tryz.prog Tryz.lays161_ren := {
  mixed := by kernel_rfl
  f119 := Tryz.func196.trans (congrArg some (by kernel_rfl))
  f137 := Tryz.func89.trans (congrArg some (by kernel_rfl))
  f151 := Tryz.func191.trans (congrArg some (by kernel_rfl))
  f152 := Tryz.func181.trans (congrArg some (by kernel_rfl))
  f161 := Tryz.func166.trans (congrArg some (by kernel_rfl))
  f197 := Tryz.func197.trans (congrArg some (by kernel_rfl))
  f217 := Tryz.func119.trans (congrArg some (by kernel_rfl))
  f224 := Tryz.func194.trans (congrArg some (by kernel_rfl))
  f225 := Tryz.func193.trans (congrArg some (by kernel_rfl))
  f227 := Tryz.func172.trans (congrArg some (by kernel_rfl))
  f228 := Tryz.func183.trans (congrArg some (by kernel_rfl))
  f231 := Tryz.func184.trans (congrArg some (by kernel_rfl))
  f233 := Tryz.func185.trans (congrArg some (by kernel_rfl))
  f235 := Tryz.func186.trans (congrArg some (by kernel_rfl))
  f260 := Tryz.func202.trans (congrArg some (by kernel_rfl))
  f266 := Tryz.func143.trans (congrArg some (by kernel_rfl))
  t0 := Tryz.underlying0
  a0 := Tryz.isAgg0
  z0 := Tryz.sizeOf0
  v0 := Tryz.zeroValue0
  t3 := Tryz.underlying3
  a3 := Tryz.isAgg3
  z3 := Tryz.sizeOf3
  v3 := Tryz.zeroValue3
  t4 := Tryz.underlying4
  a4 := Tryz.isAgg4
  z4 := Tryz.sizeOf4
  v4 := Tryz.zeroValue4
  t5 := Tryz.underlying5
  a5 := Tryz.isAgg5
  z5 := Tryz.sizeOf5
  v5 := Tryz.zeroValue5
  t9 := Tryz.underlying9
  a9 := Tryz.isAgg9
  z9 := Tryz.sizeOf9
  v9 := Tryz.zeroValue9
  t21 := Tryz.underlying21
  a21 := Tryz.isAgg21
  z21 := Tryz.sizeOf21
  v21 := Tryz.zeroValue21
  t46 := Tryz.underlying167
  a46 := Tryz.isAgg167
  z46 := Tryz.sizeOf167
  v46 := Tryz.zeroValue167
  t105 := Tryz.underlying190
  a105 := Tryz.isAgg190
  z105 := Tryz.sizeOf190
  v105 := Tryz.zeroValue190
  t116 := Tryz.underlying177
  a116 := Tryz.isAgg177
  z116 := Tryz.sizeOf177
  t117 := Tryz.underlying178
  a117 := Tryz.isAgg178
  z117 := Tryz.sizeOf178
  v117 := Tryz.zeroValue178
  t119 := Tryz.underlying199
  a119 := Tryz.isAgg199
  z119 := Tryz.sizeOf199
  t124 := Tryz.underlying181
  a124 := Tryz.isAgg181
  z124 := Tryz.sizeOf181
  v124 := Tryz.zeroValue181
  t138 := Tryz.underlying201
  a138 := Tryz.isAgg201
  z138 := Tryz.sizeOf201
  v138 := Tryz.zeroValue201
  t139 := Tryz.underlying202
  a139 := Tryz.isAgg202
  z139 := Tryz.sizeOf202
  v139 := Tryz.zeroValue202
  g3 := by kernel_rfl
  g4 := by kernel_rfl }
open Go.RowKit in
/-- strings.TrimLeft: "TrimLeft returns a slice of the string s with all leading Unicode code points contained in cutset removed.": AT A cutset OF ONE ASCII BYTE. The world is as it was. (LAID: no walk: one application.) -/
theorem Tryz.strings_TrimLeft_one (s : ByteArray) (c : UInt8) (hc : c.toNat < 128) (w : World) :
    Calls Tryz.prog 166 #[.string s, .string ⟨#[c]⟩] w fun e w' => e = .returned (.string ⟨(Lib.trimLeftB s.data.toList c).toArray⟩) ∧ w' = w := Any.strings_TrimLeft_one Tryz.lays161 s c hc w
def Tryz.lays162_ren : Go.Shelf.Ren := ⟨fun | 162 => 151 | 232 => 171 | 227 => 172 | 234 => 173 | 236 => 174 | 228 => 183 | 271 => 190 | 151 => 191 | 120 => 200 | 197 => 197 | 152 => 181 | 260 => 202 | 137 => 89 | 119 => 196 | 224 => 194 | 225 => 193 | 217 => 119 | 266 => 143 | n => n, fun | 9 => 9 | 4 => 4 | 3 => 3 | 5 => 5 | 117 => 178 | 116 => 177 | 0 => 0 | 124 => 181 | 21 => 21 | 105 => 190 | 46 => 167 | 119 => 199 | 139 => 202 | 138 => 201 | n => n, fun | 3 => 4 | 4 => 5 | n => n⟩
theorem Tryz.lays162 : Go.Proofs.Lays.n162 Tryz.prog Tryz.lays162_ren := {
  mixed := by kernel_rfl
  f119 := Tryz.func196.trans (congrArg some (by kernel_rfl))
  f120 := Tryz.func200.trans (congrArg some (by kernel_rfl))
  f137 := Tryz.func89.trans (congrArg some (by kernel_rfl))
  f151 := Tryz.func191.trans (congrArg some (by kernel_rfl))
  f152 := Tryz.func181.trans (congrArg some (by kernel_rfl))
  f162 := Tryz.func151.trans (congrArg some (by kernel_rfl))
  f197 := Tryz.func197.trans (congrArg some (by kernel_rfl))
  f217 := Tryz.func119.trans (congrArg some (by kernel_rfl))
  f224 := Tryz.func194.trans (congrArg some (by kernel_rfl))
  f225 := Tryz.func193.trans (congrArg some (by kernel_rfl))
  f227 := Tryz.func172.trans (congrArg some (by kernel_rfl))
  f228 := Tryz.func183.trans (congrArg some (by kernel_rfl))
  f232 := Tryz.func171.trans (congrArg some (by kernel_rfl))
  f234 := Tryz.func173.trans (congrArg some (by kernel_rfl))
  f236 := Tryz.func174.trans (congrArg some (by kernel_rfl))
  f260 := Tryz.func202.trans (congrArg some (by kernel_rfl))
  f266 := Tryz.func143.trans (congrArg some (by kernel_rfl))
  f271 := Tryz.func190.trans (congrArg some (by kernel_rfl))
  t0 := Tryz.underlying0
  a0 := Tryz.isAgg0
  z0 := Tryz.sizeOf0
  v0 := Tryz.zeroValue0
  t3 := Tryz.underlying3
  a3 := Tryz.isAgg3
  z3 := Tryz.sizeOf3
  v3 := Tryz.zeroValue3
  t4 := Tryz.underlying4
  a4 := Tryz.isAgg4
  z4 := Tryz.sizeOf4
  v4 := Tryz.zeroValue4
  t5 := Tryz.underlying5
  a5 := Tryz.isAgg5
  z5 := Tryz.sizeOf5
  v5 := Tryz.zeroValue5
  t9 := Tryz.underlying9
  a9 := Tryz.isAgg9
  z9 := Tryz.sizeOf9
  v9 := Tryz.zeroValue9
  t21 := Tryz.underlying21
  a21 := Tryz.isAgg21
  z21 := Tryz.sizeOf21
  v21 := Tryz.zeroValue21
  t46 := Tryz.underlying167
  a46 := Tryz.isAgg167
  z46 := Tryz.sizeOf167
  v46 := Tryz.zeroValue167
  t105 := Tryz.underlying190
  a105 := Tryz.isAgg190
  z105 := Tryz.sizeOf190
  v105 := Tryz.zeroValue190
  t116 := Tryz.underlying177
  a116 := Tryz.isAgg177
  z116 := Tryz.sizeOf177
  t117 := Tryz.underlying178
  a117 := Tryz.isAgg178
  z117 := Tryz.sizeOf178
  v117 := Tryz.zeroValue178
  t119 := Tryz.underlying199
  a119 := Tryz.isAgg199
  z119 := Tryz.sizeOf199
  t124 := Tryz.underlying181
  a124 := Tryz.isAgg181
  z124 := Tryz.sizeOf181
  v124 := Tryz.zeroValue181
  t138 := Tryz.underlying201
  a138 := Tryz.isAgg201
  z138 := Tryz.sizeOf201
  v138 := Tryz.zeroValue201
  t139 := Tryz.underlying202
  a139 := Tryz.isAgg202
  z139 := Tryz.sizeOf202
  v139 := Tryz.zeroValue202
  g3 := by kernel_rfl
  g4 := by kernel_rfl }
open Go.RowKit in
/-- strings.TrimRight: "TrimRight returns a slice of the string s, with all trailing Unicode code points contained in cutset removed.": AT A cutset OF ONE ASCII BYTE. The world is as it was. (LAID: no walk: one application.) -/
theorem Tryz.strings_TrimRight_one (s : ByteArray) (c : UInt8) (hc : c.toNat < 128) (w : World) (hs : s.size ≤ 9223372036854775807) :
    Calls Tryz.prog 151 #[.string s, .string ⟨#[c]⟩] w fun e w' => e = .returned (.string ⟨(Lib.trimRightB s.data.toList c).toArray⟩) ∧ w' = w := Any.strings_TrimRight_one Tryz.lays162 s c hc w hs
def Tryz.lays137_ren : Go.Shelf.Ren := ⟨fun | 137 => 89 | 217 => 119 | 266 => 143 | n => n, fun | 9 => 9 | 5 => 5 | 3 => 3 | n => n, fun | n => n⟩
theorem Tryz.lays137 : Go.Proofs.Lays.n137 Tryz.prog Tryz.lays137_ren := {
  mixed := by kernel_rfl
  f137 := Tryz.func89.trans (congrArg some (by kernel_rfl))
  f217 := Tryz.func119.trans (congrArg some (by kernel_rfl))
  f266 := Tryz.func143.trans (congrArg some (by kernel_rfl))
  t3 := Tryz.underlying3
  a3 := Tryz.isAgg3
  z3 := Tryz.sizeOf3
  v3 := Tryz.zeroValue3
  t5 := Tryz.underlying5
  a5 := Tryz.isAgg5
  z5 := Tryz.sizeOf5
  v5 := Tryz.zeroValue5
  t9 := Tryz.underlying9
  a9 := Tryz.isAgg9
  z9 := Tryz.sizeOf9
  v9 := Tryz.zeroValue9 }
open Go.RowKit in
/-- strings.IndexByte: "IndexByte returns the index of the first instance of c in s, or -1 if c is not present in s.": IT RETURNS 'Lib.indexByte s c'; the world is as it was. (LAID: no walk: one application.) -/
theorem Tryz.strings_IndexByte (s : ByteArray) (c : Int) (w : World) :
    Calls Tryz.prog 89 #[.string s, .int .u8 c] w fun e w' => e = .returned (.int .i64 (Lib.indexByte s.data.toList c.toNat.toUInt8)) ∧ w' = w := Any.strings_IndexByte Tryz.lays137 s c w
def Tryz.lays103_ren : Go.Shelf.Ren := ⟨fun | 103 => 163 | 210 => 180 | 206 => 150 | n => n, fun | 9 => 9 | 4 => 4 | 24 => 173 | 3 => 3 | n => n, fun | n => n⟩
theorem Tryz.lays103 : Go.Proofs.Lays.n103 Tryz.prog Tryz.lays103_ren := {
  mixed := by kernel_rfl
  f103 := Tryz.func163.trans (congrArg some (by kernel_rfl))
  f206 := Tryz.func150.trans (congrArg some (by kernel_rfl))
  f210 := Tryz.func180.trans (congrArg some (by kernel_rfl))
  t3 := Tryz.underlying3
  a3 := Tryz.isAgg3
  z3 := Tryz.sizeOf3
  v3 := Tryz.zeroValue3
  t4 := Tryz.underlying4
  a4 := Tryz.isAgg4
  z4 := Tryz.sizeOf4
  v4 := Tryz.zeroValue4
  t9 := Tryz.underlying9
  a9 := Tryz.isAgg9
  z9 := Tryz.sizeOf9
  v9 := Tryz.zeroValue9
  t24 := Tryz.underlying173
  a24 := Tryz.isAgg173
  z24 := Tryz.sizeOf173
  v24 := Tryz.zeroValue173 }
open Go.RowKit in
/-- strings.CutPrefix: "CutPrefix returns s without the provided leading prefix string and reports whether it found the prefix. If s doesn't start with prefix, CutPrefix returns s, false. If prefix is the empty string, CutPrefix returns s, true.": IT RETURNS '(Lib.trimPrefix s p, Lib.hasPrefix s p)'; the world is as it was. (LAID: no walk: one application.) -/
theorem Tryz.strings_CutPrefix (s p : ByteArray) (w : World) :
    Calls Tryz.prog 163 #[.string s, .string p] w fun e w' => e = .returned (.tuple #[.string ⟨(Lib.trimPrefix s.data.toList p.data.toList).toArray⟩, .bool (Lib.hasPrefix s.data.toList p.data.toList)]) ∧ w' = w := Any.strings_CutPrefix Tryz.lays103 s p w
def Tryz.laysM316_ren : Go.Shelf.Ren := ⟨fun | 316 => 187 | n => n, fun | 9 => 9 | 3 => 3 | 4 => 4 | 37 => 89 | 0 => 0 | 127 => 121 | 5 => 5 | n => n, fun | n => n⟩
theorem Tryz.laysM316 : Go.Proofs.LaysM.n316 Tryz.prog Tryz.laysM316_ren := {
  mixed := by kernel_rfl
  f316 := Tryz.func187.trans (congrArg some (by kernel_rfl))
  t0 := Tryz.underlying0
  a0 := Tryz.isAgg0
  z0 := Tryz.sizeOf0
  v0 := Tryz.zeroValue0
  t3 := Tryz.underlying3
  a3 := Tryz.isAgg3
  z3 := Tryz.sizeOf3
  v3 := Tryz.zeroValue3
  t4 := Tryz.underlying4
  a4 := Tryz.isAgg4
  z4 := Tryz.sizeOf4
  v4 := Tryz.zeroValue4
  t9 := Tryz.underlying9
  a9 := Tryz.isAgg9
  z9 := Tryz.sizeOf9
  v9 := Tryz.zeroValue9
  t37 := Tryz.underlying89
  a37 := Tryz.isAgg89
  z37 := Tryz.sizeOf89
  v37 := Tryz.zeroValue89
  t127 := Tryz.underlying121
  a127 := Tryz.isAgg121
  z127 := Tryz.sizeOf121
  v127 := Tryz.zeroValue121
  t5 := Tryz.underlying5
  a5 := Tryz.isAgg5
  z5 := Tryz.sizeOf5
  v5 := Tryz.zeroValue5
  i0 := by kernel_rfl
  i3 := by kernel_rfl
  i4 := by kernel_rfl
  i5 := by kernel_rfl
  i9 := by kernel_rfl
  i37 := by kernel_rfl
  i127 := by kernel_rfl }
open Go.RowKit in
/-- internal/stringslite.Clone (what strings.Clone calls): "Clone returns a fresh copy of s.": THE SAME BYTES. Of what was there nothing has turned (a new row is laid, and frozen, where s is not empty). (LAID: no walk: one application.) -/
theorem Tryz.stringslite_Clone (s : ByteArray) (w : World) (hlim : s.size ≤ 281474976710656) :
    Calls Tryz.prog 187 #[.string s] w fun e w' => e = .returned (.string s) ∧ Below w.heap.size w w' := Any.stringslite_Clone Tryz.laysM316 s w hlim
def Tryz.lays143_ren : Go.Shelf.Ren := ⟨fun | 143 => 153 | 219 => 176 | 217 => 119 | 225 => 193 | 224 => 194 | 267 => 195 | 266 => 143 | 314 => 201 | n => n, fun | 9 => 9 | 3 => 3 | 4 => 4 | 5 => 5 | 46 => 167 | 146 => 197 | 51 => 196 | n => n, fun | 1 => 2 | n => n⟩
theorem Tryz.lays143 : Go.Proofs.Lays.n143 Tryz.prog Tryz.lays143_ren := {
  mixed := by kernel_rfl
  f143 := Tryz.func153.trans (congrArg some (by kernel_rfl))
  f217 := Tryz.func119.trans (congrArg some (by kernel_rfl))
  f219 := Tryz.func176.trans (congrArg some (by kernel_rfl))
  f224 := Tryz.func194.trans (congrArg some (by kernel_rfl))
  f225 := Tryz.func193.trans (congrArg some (by kernel_rfl))
  f266 := Tryz.func143.trans (congrArg some (by kernel_rfl))
  f267 := Tryz.func195.trans (congrArg some (by kernel_rfl))
  f314 := Tryz.func201.trans (congrArg some (by kernel_rfl))
  t3 := Tryz.underlying3
  a3 := Tryz.isAgg3
  z3 := Tryz.sizeOf3
  v3 := Tryz.zeroValue3
  t4 := Tryz.underlying4
  a4 := Tryz.isAgg4
  z4 := Tryz.sizeOf4
  v4 := Tryz.zeroValue4
  t5 := Tryz.underlying5
  a5 := Tryz.isAgg5
  z5 := Tryz.sizeOf5
  v5 := Tryz.zeroValue5
  t9 := Tryz.underlying9
  a9 := Tryz.isAgg9
  z9 := Tryz.sizeOf9
  v9 := Tryz.zeroValue9
  t46 := Tryz.underlying167
  a46 := Tryz.isAgg167
  z46 := Tryz.sizeOf167
  v46 := Tryz.zeroValue167
  t51 := Tryz.underlying196
  a51 := Tryz.isAgg196
  z51 := Tryz.sizeOf196
  v51 := Tryz.zeroValue196
  t146 := Tryz.underlying197
  a146 := Tryz.isAgg197
  z146 := Tryz.sizeOf197
  v146 := Tryz.zeroValue197
  g1 := by kernel_rfl }
open Go.RowKit Go.Lib in
/-- strings.Index: "Index returns the index of the first instance of substr in s, or -1 if substr is not present in s.": IT RETURNS 'Lib.index s substr'; the world is as it was. (LAID: no walk: one application.) -/
theorem Tryz.strings_Index (s sub : ByteArray) (m : Int) (w : World) (hs : s.size < 4294967281) (hm : w.cell? ⟨2, 0, none⟩ = some (.int .i64 m)) :
    Calls Tryz.prog 153 #[.string s, .string sub] w fun e w' => e = .returned (.int .i64 (Lib.index s.data.toList sub.data.toList)) ∧ w' = w := Any.strings_Index Tryz.lays143 s sub m w hs hm
def Tryz.lays99_ren : Go.Shelf.Ren := ⟨fun | 99 => 125 | 206 => 150 | n => n, fun | 9 => 9 | 4 => 4 | 3 => 3 | n => n, fun | n => n⟩
theorem Tryz.lays99 : Go.Proofs.Lays.n99 Tryz.prog Tryz.lays99_ren := {
  mixed := by kernel_rfl
  f99 := Tryz.func125.trans (congrArg some (by kernel_rfl))
  f206 := Tryz.func150.trans (congrArg some (by kernel_rfl))
  t3 := Tryz.underlying3
  a3 := Tryz.isAgg3
  z3 := Tryz.sizeOf3
  v3 := Tryz.zeroValue3
  t4 := Tryz.underlying4
  a4 := Tryz.isAgg4
  z4 := Tryz.sizeOf4
  v4 := Tryz.zeroValue4
  t9 := Tryz.underlying9
  a9 := Tryz.isAgg9
  z9 := Tryz.sizeOf9
  v9 := Tryz.zeroValue9 }
open Go.RowKit Go.Lib in
/-- strings.HasPrefix: "HasPrefix reports whether the string s begins with prefix.": IT RETURNS 'Lib.hasPrefix s prefix'; the world is as it was. (LAID: no walk: one application.) -/
theorem Tryz.strings_HasPrefix (s p : ByteArray) (w : World) :
    Calls Tryz.prog 125 #[.string s, .string p] w fun e w' => e = .returned (.bool (Lib.hasPrefix s.data.toList p.data.toList)) ∧ w' = w := Any.strings_HasPrefix Tryz.lays99 s p w
def Tryz.lays153_ren : Go.Shelf.Ren := ⟨fun | 153 => 164 | 152 => 181 | 226 => 182 | 227 => 172 | 228 => 183 | 137 => 89 | 119 => 196 | 224 => 194 | 225 => 193 | 217 => 119 | 266 => 143 | n => n, fun | 9 => 9 | 3 => 3 | 4 => 4 | 5 => 5 | 21 => 21 | 117 => 178 | 116 => 177 | 0 => 0 | 46 => 167 | 124 => 181 | n => n, fun | n => n⟩
theorem Tryz.lays153 : Go.Proofs.Lays.n153 Tryz.prog Tryz.lays153_ren := {
  mixed := by kernel_rfl
  f119 := Tryz.func196.trans (congrArg some (by kernel_rfl))
  f137 := Tryz.func89.trans (congrArg some (by kernel_rfl))
  f152 := Tryz.func181.trans (congrArg some (by kernel_rfl))
  f153 := Tryz.func164.trans (congrArg some (by kernel_rfl))
  f217 := Tryz.func119.trans (congrArg some (by kernel_rfl))
  f224 := Tryz.func194.trans (congrArg some (by kernel_rfl))
  f225 := Tryz.func193.trans (congrArg some (by kernel_rfl))
  f226 := Tryz.func182.trans (congrArg some (by kernel_rfl))
  f227 := Tryz.func172.trans (congrArg some (by kernel_rfl))
  f228 := Tryz.func183.trans (congrArg some (by kernel_rfl))
  f266 := Tryz.func143.trans (congrArg some (by kernel_rfl))
  t0 := Tryz.underlying0
  a0 := Tryz.isAgg0
  z0 := Tryz.sizeOf0
  v0 := Tryz.zeroValue0
  t3 := Tryz.underlying3
  a3 := Tryz.isAgg3
  z3 := Tryz.sizeOf3
  v3 := Tryz.zeroValue3
  t4 := Tryz.underlying4
  a4 := Tryz.isAgg4
  z4 := Tryz.sizeOf4
  v4 := Tryz.zeroValue4
  t5 := Tryz.underlying5
  a5 := Tryz.isAgg5
  z5 := Tryz.sizeOf5
  v5 := Tryz.zeroValue5
  t9 := Tryz.underlying9
  a9 := Tryz.isAgg9
  z9 := Tryz.sizeOf9
  v9 := Tryz.zeroValue9
  t21 := Tryz.underlying21
  a21 := Tryz.isAgg21
  z21 := Tryz.sizeOf21
  v21 := Tryz.zeroValue21
  t46 := Tryz.underlying167
  a46 := Tryz.isAgg167
  z46 := Tryz.sizeOf167
  v46 := Tryz.zeroValue167
  t116 := Tryz.underlying177
  a116 := Tryz.isAgg177
  z116 := Tryz.sizeOf177
  t117 := Tryz.underlying178
  a117 := Tryz.isAgg178
  z117 := Tryz.sizeOf178
  v117 := Tryz.zeroValue178
  t124 := Tryz.underlying181
  a124 := Tryz.isAgg181
  z124 := Tryz.sizeOf181
  v124 := Tryz.zeroValue181 }
open Go.RowKit Go.Lib in
theorem Tryz.strings_IndexAny_laid (s chars : ByteArray) (w : World) (hs : s.size < 4294967281) (hcs : chars.size < 4294967281) (has : ∀ (j : Nat) b, s.data.toList[j]? = some b → b.toNat < 128) (hac : ∀ (j : Nat) b, chars.data.toList[j]? = some b → b.toNat < 128) :
    Calls Tryz.prog 164 #[.string s, .string chars] w fun e w' => e = .returned (.int .i64 (Lib.indexAny s.data.toList chars.data.toList)) ∧ Below w.heap.size w w' := Any.strings_IndexAny_laid Tryz.lays153 (by kernel_rfl) s chars w hs hcs has hac
end Go.Proofs

/- The walks of the lexer's small functions (layer 11): letters, digits, names, signs. -/
namespace Go.Proofs.YtjlikcfabekhlaaGreatDoor
open Go.RowKit Go.Tab

set_option maxHeartbeats 2000000 in
set_option maxRecDepth 100000 in
theorem letter_any (c : UInt8) (w : World) : Calls Tryz.prog 120 #[.int .u8 c.toNat] w fun e w' => e = .returned (.bool (letB c)) ∧ w = w' := by
  have hL : letB c = (decide (65 ≤ c.toNat ∧ c.toNat ≤ 90) || (decide (97 ≤ c.toNat ∧ c.toNat ≤ 122) || decide (c.toNat = 95))) := rfl
  generalize letB c = b at hL
  generalize c.toNat = n at hL
  have hr : ((n < 65 ∨ (65 ≤ n ∧ 90 < n ∧ n < 95) ∨ (65 ≤ n ∧ 90 < n ∧ n = 96) ∨ (65 ≤ n ∧ 90 < n ∧ 97 ≤ n ∧ 122 < n)) ∧ b = false) ∨ (((65 ≤ n ∧ n ≤ 90) ∨ (65 ≤ n ∧ 90 < n ∧ 97 ≤ n ∧ n ≤ 122) ∨ (65 ≤ n ∧ 90 < n ∧ n < 97 ∧ n = 95)) ∧ b = true) := by
    cases b with
    | false =>
      have h := hL.symm
      simp only [Bool.or_eq_false_iff, decide_eq_false_iff_not] at h
      left
      exact ⟨by omega, rfl⟩
    | true =>
      have h := hL.symm
      simp only [Bool.or_eq_true, decide_eq_true_eq] at h
      right
      exact ⟨by omega, rfl⟩
  clear hL
  rcases hr with ⟨(h | ⟨h1, h2, h3⟩ | ⟨h1, h2, rfl⟩ | ⟨h1, h2, h3, h4⟩), rfl⟩ | ⟨(⟨h1, h2⟩ | ⟨h1, h2, h3, h4⟩ | ⟨h1, h2, h3, rfl⟩), rfl⟩
  all_goals
    go_enter Tryz.func120, Tryz.ntmps120
    go_wp2
    go_ret
    first
    | exact ⟨rfl, rfl⟩
    | exact ⟨ret_bool (by simp only [ne_eq, Bool.or_eq_false_iff, Bool.or_eq_true, decide_eq_false_iff_not, decide_eq_true_eq, beq_eq_false_iff_ne, beq_iff_eq]; omega), rfl⟩

set_option maxHeartbeats 2000000 in
set_option maxRecDepth 100000 in
theorem digit_any (c : UInt8) (w : World) : Calls Tryz.prog 122 #[.int .u8 c.toNat] w fun e w' => e = .returned (.bool (dg c)) ∧ w = w' := by
  have hL : dg c = decide (48 ≤ c.toNat ∧ c.toNat ≤ 57) := rfl
  generalize dg c = b at hL
  generalize c.toNat = n at hL
  have hr : ((n < 48 ∨ (48 ≤ n ∧ 57 < n)) ∧ b = false) ∨ ((48 ≤ n ∧ n ≤ 57) ∧ b = true) := by
    cases b with
    | false =>
      have h := hL.symm
      simp only [decide_eq_false_iff_not] at h
      left
      exact ⟨by omega, rfl⟩
    | true =>
      have h := hL.symm
      simp only [decide_eq_true_eq] at h
      right
      exact ⟨by omega, rfl⟩
  clear hL
  rcases hr with ⟨(h | ⟨h1, h2⟩), rfl⟩ | ⟨⟨h1, h2⟩, rfl⟩
  all_goals
    go_enter Tryz.func122, Tryz.ntmps122
    go_wp2
    go_ret
    first
    | exact ⟨rfl, rfl⟩
    | exact ⟨ret_bool (by simp only [ne_eq, Bool.or_eq_false_iff, Bool.or_eq_true, decide_eq_false_iff_not, decide_eq_true_eq, beq_eq_false_iff_ne, beq_iff_eq]; omega), rfl⟩

theorem idN_step (l : Bs) (k : Nat) (h : k < l.length) : idN (l.drop k) = if idB l[k] then idN (l.drop (k + 1)) + 1 else 0 := by
  rw [List.drop_eq_getElem_cons h, idN]

set_option maxHeartbeats 2000000 in
set_option maxRecDepth 100000 in
theorem ident_any (s : ByteArray) (w : World) (hs : s.size ≤ maxLen) (h0 : 0 < s.size) :
    Calls Tryz.prog 121 #[.string s] w fun e w' => e = .returned (.int .i64 ((1 + idN (s.data.toList.drop 1) : Nat) : Int)) ∧ w = w' := by
  unfold maxLen at hs
  generalize hq : idN (s.data.toList.drop 1) = q
  have HQ := Lib.hid hq
  clear hq
  go_enter Tryz.func121, Tryz.ntmps121
  go_wp2_with fail
  go_loop [3] (fun n => ∃ k : Nat, n = .int .i64 (k : Int) ∧ 1 ≤ k ∧ k ≤ s.size ∧ k + idN (s.data.toList.drop k) = 1 + q) (fun n => s.size - (intOf n).toNat)
  case atStart => exact ⟨1, rfl, Nat.le_refl _, h0, by rw [HQ.out]⟩
  case round =>
    obtain ⟨k, rfl, hk1, hk, hI⟩ := hrel
    by_cases hlt : k < s.size
    · have hst := idN_step s.data.toList k (by rw [← size_list]; exact hlt)
      rw [hst] at hI
      have hLe := letter_any (s[k]'hlt)
      have hDi := digit_any (s[k]'hlt)
      have hid : idB (s[k]'hlt) = (letB (s[k]'hlt) || dg (s[k]'hlt)) := rfl
      rw [← get_list hlt, hid] at hI
      clear hst hid
      cases hb : letB (s[k]'hlt) with
      | true =>
        rw [hb] at hI hLe
        simp only [Bool.true_or, if_true] at hI
        have HI := Lib.hid hI
        clear hI hb hDi
        go_wp2_with fail
        refine (hLe _).mono ?_
        rintro _ _ ⟨rfl, rfl⟩
        go_wp2
        go_round
        case rel => exact ⟨k + 1, by go_num, by omega, by omega, by have := HI.out; omega⟩
        case measure => simp [intOf]; omega
      | false =>
        rw [hb] at hI hLe
        cases hd : dg (s[k]'hlt) with
        | true =>
          rw [hd] at hI hDi
          simp only [Bool.or_true, if_true] at hI
          have HI := Lib.hid hI
          clear hI hb hd
          go_wp2_with fail
          refine (hLe _).mono ?_
          rintro _ _ ⟨rfl, rfl⟩
          go_wp2_with fail
          refine (hDi _).mono ?_
          rintro _ _ ⟨rfl, rfl⟩
          go_wp2
          go_round
          case rel => exact ⟨k + 1, by go_num, by omega, by omega, by have := HI.out; omega⟩
          case measure => simp [intOf]; omega
        | false =>
          rw [hd] at hI hDi
          simp only [Bool.or_false, Bool.false_eq_true, if_false] at hI
          have HI := Lib.hid hI
          clear hI hb hd
          go_wp2_with fail
          refine (hLe _).mono ?_
          rintro _ _ ⟨rfl, rfl⟩
          go_wp2_with fail
          refine (hDi _).mono ?_
          rintro _ _ ⟨rfl, rfl⟩
          go_wp2
          go_ret
          exact ⟨ret_num (by have := HI.out; omega), rfl⟩
    · obtain rfl : k = s.size := by omega
      have he : idN (s.data.toList.drop s.size) = 0 := by rw [size_list, List.drop_length]; rfl
      rw [he] at hI
      have HI := Lib.hid hI
      clear hI he
      go_wp2
      go_ret
      exact ⟨ret_num (by have := HI.out; omega), rfl⟩
end Go.Proofs.YtjlikcfabekhlaaGreatDoor

/- The walk of the lexer's look into a comment (layer 11). -/
namespace Go.Proofs.YtjlikcfabekhlaaGreatDoor
open Go.RowKit Go.Tab Go.Shelf
attribute [local go_sem] Oper.semAt_some

def badC (x : Nat × Nat) : Bool := decide (x.2 < 32) && x.2 != 9
def wthV : Option (Nat × Int) → Value
  | none => .tuple #[.int .i64 0, .int .i64 0]
  | some x => .tuple #[.int .i64 (x.1 : Nat), .int .i64 x.2]
/-- Between two rounds: nothing wrong has come. -/
def WiI (w : World) (pre : List (Nat × Nat)) (W : World) : Prop :=
  ((∀ x ∈ pre, badC x = false) ∧ Cells W w.heap.size #[.int .i64 0] 3 ∧ Cells W (w.heap.size + 1) #[.int .i64 0] 31) ∧ Below w.heap.size w W
def WiX (w : World) (c : Code) (pre : List (Nat × Nat)) (W : World) : Prop :=
  (c = .ret ∧ ∃ d x, pre = d ++ [x] ∧ (∀ x ∈ d, badC x = false) ∧ badC x = true ∧ Cells W w.heap.size #[.int .i64 (x.1 : Nat)] 3 ∧ Cells W (w.heap.size + 1) #[.int .i64 3] 31) ∧ Below w.heap.size w W
theorem cells_own {A B : World} {row : Option Nat} {g : Nat} {cs : Array Value} {t : TypeId} (h : Cells A g cs t) (hg : A.grownBy B row) (hr : ∀ r, row = some r → ∃ o : Obj, A.heap[r]? = some o ∧ o.isCells = false) : Cells B g cs t :=
  h.kept hg (fun e' => by
    obtain ⟨o, ho, hc⟩ := hr _ e'.symm
    rw [show A.heap[g]? = _ from h] at ho; cases ho; cases hc)
theorem WiI_own (w : World) (L : Nat) (hL : w.heap.size ≤ L) : OwnFrom L (WiI w) :=
  OwnFrom.and (Own.from (fun pre A B row hs hg' hr => ⟨hs.1, cells_own hs.2.1 hg' hr, cells_own hs.2.2 hg' hr⟩) _) (ownFrom_below (Nat.le_refl _) hL)
theorem WiX_own (w : World) (L : Nat) (hL : w.heap.size ≤ L) (c : Code) : OwnFrom L (WiX w c) :=
  OwnFrom.and (Own.from (fun pre A B row hs hg' hr => by
    obtain ⟨h1, d, x, h2, h3, h4, h5, h6⟩ := hs
    exact ⟨h1, d, x, h2, h3, h4, cells_own h5 hg' hr, cells_own h6 hg' hr⟩) _) (ownFrom_below (Nat.le_refl _) hL)
theorem wth_none {l : Bs} (h : ∀ x ∈ (scan (nb l) 0).1, badC x = false) : wth l = match (scan (nb l) 0).2 with
    | some a => some (a, 7)
    | none => none := by
  unfold wth
  have : (scan (nb l) 0).1.find? (fun x => decide (x.2 < 32) && x.2 != 9) = none := by
    rw [List.find?_eq_none]
    intro x hx
    have := h x hx
    unfold badC at this
    rw [this]; simp
  rw [this]
  rfl
theorem wth_some {l : Bs} {d : List (Nat × Nat)} {x : Nat × Nat} (h : d ++ [x] <+: (scan (nb l) 0).1) (h1 : ∀ x ∈ d, badC x = false) (h2 : badC x = true) : wth l = some (x.1, 3) := by
  unfold wth
  have : (scan (nb l) 0).1.find? (fun x => decide (x.2 < 32) && x.2 != 9) = some x := by
    obtain ⟨t, ht⟩ := h
    rw [← ht, List.append_assoc, List.find?_append, List.find?_append]
    have hd : d.find? (fun x => decide (x.2 < 32) && x.2 != 9) = none := by
      rw [List.find?_eq_none]
      intro y hy
      have := h1 y hy
      unfold badC at this
      rw [this]; simp
    rw [hd]
    unfold badC at h2
    simp only [List.find?_cons, h2]
    rfl
  rw [this]

theorem good_snoc {pre : List (Nat × Nat)} {x : Nat × Nat} (h : ∀ x ∈ pre, badC x = false) (hx : badC x = false) : ∀ y ∈ pre ++ [x], badC y = false := by
  intro y hy
  rcases List.mem_append.1 hy with hy | hy
  · exact h y hy
  · simp at hy; subst hy; exact hx
theorem Cells.putObj {W : World} {g D : Nat} {cs : Array Value} {t : TypeId} {o o' : Obj} (h : Cells W g cs t) (hK : W.heap[D]? = some o) (ho : o.isCells = false) : Cells (W.putObj D o') g cs t := by
  have hne : g ≠ D := by
    rintro rfl
    rw [show W.heap[g]? = _ from h] at hK; cases hK; cases ho
  exact (World.putObj_heap_other hne).trans h
theorem keeps_two {W : World} {B a b : Nat} {u v : Value} (ha : a < B) (hb : b < B) : KeepsFrom B W ((W.setCell ⟨a, 0, none⟩ u).setCell ⟨b, 0, none⟩ v) :=
  ⟨by simp [World.setCell], fun k o hk ho _ => (Below.heap_setCell _ _ _ _ (by show k ≠ b; omega)).trans ((Below.heap_setCell _ _ _ _ (by show k ≠ a; omega)).trans ho)⟩
set_option maxHeartbeats 4000000 in
set_option maxRecDepth 100000 in
theorem within_any (s : ByteArray) (w : World) (hs : s.size ≤ 100000) (hT : Tab w) :
    Calls Tryz.prog 152 #[.string s] w fun e w' => e = .returned (wthV (wth s.data.toList)) ∧ Below w.heap.size w w' := by
  refine (callsIn_wide (n := 9)).1 ?_
  refine callsIn_of_wp_marks Tryz.func152 rfl trivial ?_ rfl
  simp only [Tryz.ntmps152, List.size_toArray, List.length_cons, List.length_nil, Nat.reduceAdd, Nat.reduceSub, Array.replicate_succ, Array.replicate_zero, List.push_toArray, List.append_toArray, List.nil_append, List.cons_append]
  have HA := Lib.hid (uAll_any s ((w.alloc (.cells #[.int .i64 0] 3)).alloc (.cells #[.int .i64 0] 31)))
  gi_wp2
  refine ⟨trivial, (callsIn_wide.2 HA.out).mono ?_⟩
  rintro e w1 ⟨rfl, hw1⟩
  have hb1 : Below (w.heap.size + 2) ((w.alloc (.cells #[.int .i64 0] 3)).alloc (.cells #[.int .i64 0] 31)) w1 := by
    rw [hw1]; exact (Below.refl _ _).alloc (by simp) _
  have hz : w1.heap.size = w.heap.size + 3 := by rw [hw1]; simp
  have hcB : w1.cell? ⟨w.heap.size + 2, 0, none⟩ = some (.string s) := by
    have h := World.cell?_alloc_new (w := (w.alloc (.cells #[.int .i64 0] 3)).alloc (.cells #[.int .i64 0] 31)) #[.string s] 9 0
    simp only [World.size_alloc] at h
    rw [hw1]; exact h
  have c2 : Cells w1 w.heap.size #[.int .i64 0] 3 := ((Cells.new w _ _).alloc _).below hb1 (by omega)
  have c3 : Cells w1 (w.heap.size + 1) #[.int .i64 0] 31 := by
    have h := (Cells.new (w.alloc (.cells #[.int .i64 0] 3)) #[.int .i64 0] 31).below hb1 (by simp)
    simpa using h
  have hB0 : Below w.heap.size w w1 := (((Below.refl _ w).alloc (Nat.le_refl _) _).alloc (by simp) _).trans (hb1.mono (by omega))
  have hT1 := hT.below hB0 hT.pos
  have h0w := hT.pos
  clear HA hw1
  simp only [World.size_alloc]
  gi_wp2
  have hwL : w.heap.size ≤ w1.heap.size := by omega
  refine wpIn_rangeFunc_ownG rfl (by omega) (gf := 192) (lb := #[.pointer (some ⟨w.heap.size + 2, 0, none⟩)]) rfl trivial (enters_of Tryz.func192 (by kernel_rfl) rfl)
    (uAll_stops 8 (by omega) (w.heap.size + 2) s (by omega) w1 (by omega) hcB hT1) TwoKept.trans (TwoKept.put (w.heap.size + 2) w1 (by omega) (by omega)) (Below.refl _ _) (fun _ => rfl)
    (WiI w) (WiX w) (WiI_own _ _ hwL) (WiX_own _ _ hwL)
    ⟨⟨by simp, c2, c3⟩, hB0⟩
    (fun x => { tmps := #[.string s, undef, .pointer (some ⟨w.heap.size, 0, none⟩), .pointer (some ⟨w.heap.size + 1, 0, none⟩), .int .i64 (x.1 : Nat), .int .i64 (x.2 : Nat), undef, .string s, .func (.func 192) #[] #[.pointer (some ⟨w.heap.size + 2, 0, none⟩)], .int .i64 (x.1 : Nat), .int .i64 (x.2 : Nat), undef, undef, undef, undef, undef, undef, undef, undef, undef, undef, undef, undef], defers := [] }) ?assign ?body ?done ?stop
  case assign =>
    intro l x W K hK
    gi_wp2
    exact hK
  case body =>
    rintro l0 pre x W ⟨⟨hgood, hc2, hc3⟩, hB⟩ hlt
    have hl2 := hc2.lt
    have hl3 := hc3.lt
    by_cases hx : x.2 < 32 ∧ x.2 ≠ 9
    · have d1 : decide ((x.2 : Int) < 32) = true := by rw [decide_eq_true_eq]; omega
      have d2 : ((x.2 : Int) != 9) = true := by rw [bne_iff_ne]; omega
      have hbx : badC x = true := by simp [badC, hx.1, hx.2]
      have HX := Lib.hid hbx
      have HG := Lib.hid hgood
      clear hx hgood hbx
      have hc2c0 := hc2.cell 0 _ rfl
      have hc2f0 := hc2.frozen 0
      have hc3c0 := hc3.cell 0 _ rfl
      have hc3f0 := hc3.frozen 0
      gi_wp2
      exact ⟨keeps_two (by omega) (by omega), ⟨rfl, pre, x, rfl, HG.out, HX.out, (hc2.setI 0 _).setOther _ _ (by show w.heap.size + 1 ≠ w.heap.size; omega), (hc3.setOther _ _ (by show w.heap.size ≠ w.heap.size + 1; omega)).setI 0 _⟩, (hB.setCell (Nat.le_refl _) _).setCell (by show w.heap.size ≤ w.heap.size + 1; omega) _⟩
    · have hbx : badC x = false := by
        simp only [badC, Bool.and_eq_false_iff, decide_eq_false_iff_not, bne_eq_false_iff_eq]
        omega
      have HX := Lib.hid hbx
      have HG := Lib.hid hgood
      have hr : 32 ≤ x.2 ∨ x.2 = 9 := by omega
      clear hx hgood hbx
      rcases hr with hr | hr
      · have d1 : decide ((x.2 : Int) < 32) = false := by rw [decide_eq_false_iff_not]; omega
        gi_wp2
        exact ⟨KeepsFrom.refl _ _, TwoKept.refl _ _, ⟨good_snoc HG.out HX.out, hc2, hc3⟩, hB⟩
      · have d1 : decide ((x.2 : Int) < 32) = true := by rw [decide_eq_true_eq]; omega
        have d2 : ((x.2 : Int) != 9) = false := by rw [bne_eq_false_iff_eq]; omega
        gi_wp2
        exact ⟨KeepsFrom.refl _ _, TwoKept.refl _ _, ⟨good_snoc HG.out HX.out, hc2, hc3⟩, hB⟩
  case done =>
    rintro D ys W hD rfl ⟨⟨hgood, hc2, hc3⟩, hB⟩ hK
    have hTW := hT.below hB hT.pos
    have hBa := Bad_any s W hTW (by omega)
    have hW := wth_none (l := s.data.toList) hgood
    have hl2 := hc2.lt
    have hl3 := hc3.lt
    rw [show nb s.data.toList = bs s from rfl] at hW
    cases ho : (scan (bs s) 0).2 with
    | none =>
      rw [ho] at hBa hW
      have HW := Lib.hid hW
      clear hW hgood ho
      simp only [badV] at hBa
      have hc2c0 := hc2.cell 0 _ rfl
      have hc2f0 := hc2.frozen 0
      have hc3c0 := hc3.cell 0 _ rfl
      have hc3f0 := hc3.frozen 0
      gi_wp2
      refine ⟨trivial, (callsIn_wide.2 hBa).mono ?_⟩
      rintro e w3 ⟨rfl, rfl⟩
      gi_wp2
      have hK2 : ((W.setCell ⟨w.heap.size, 0, none⟩ (.int .i64 0)).setCell ⟨w.heap.size + 1, 0, none⟩ (.int .i64 0)).heap[D]? = some (Obj.deferred (some [])) := (Below.heap_setCell _ _ _ _ (by show D ≠ w.heap.size + 1; omega)).trans ((Below.heap_setCell _ _ _ _ (by show D ≠ w.heap.size; omega)).trans hK)
      refine ⟨by simp, .inl ⟨_, _, rfl, run_takeDeferred hK2, ?_⟩⟩
      have e2 := (((hc2.setI 0 (.int .i64 0)).setOther ⟨w.heap.size + 1, 0, none⟩ (.int .i64 0) (by show w.heap.size + 1 ≠ w.heap.size; omega)).putObj (o' := .deferred none) hK2 rfl).cell 0 _ rfl
      have e3 := (((hc3.setOther ⟨w.heap.size, 0, none⟩ (.int .i64 0) (by show w.heap.size ≠ w.heap.size + 1; omega)).setI 0 (.int .i64 0)).putObj (o' := .deferred none) hK2 rfl).cell 0 _ rfl
      refine ⟨wthV none, by simp [results, Tryz.results152, go_sem, wthV, e2, e3], by rw [HW.out], ?_⟩
      exact ((hB.setCell (p := ⟨w.heap.size, 0, none⟩) (Nat.le_refl _) _).setCell (p := ⟨w.heap.size + 1, 0, none⟩) (by show w.heap.size ≤ w.heap.size + 1; omega) _).trans (belowK_b (w := w) (Nat.le_refl _) _ D _ _ (by omega) hK2 rfl rfl)
    | some a =>
      rw [ho] at hBa hW
      have HW := Lib.hid hW
      clear hW hgood ho
      simp only [badV] at hBa
      have hc2c0 := hc2.cell 0 _ rfl
      have hc2f0 := hc2.frozen 0
      have hc3c0 := hc3.cell 0 _ rfl
      have hc3f0 := hc3.frozen 0
      gi_wp2
      refine ⟨trivial, (callsIn_wide.2 hBa).mono ?_⟩
      rintro e w3 ⟨rfl, rfl⟩
      gi_wp2
      have hK2 : ((W.setCell ⟨w.heap.size, 0, none⟩ (.int .i64 (a : Int))).setCell ⟨w.heap.size + 1, 0, none⟩ (.int .i64 7)).heap[D]? = some (Obj.deferred (some [])) := (Below.heap_setCell _ _ _ _ (by show D ≠ w.heap.size + 1; omega)).trans ((Below.heap_setCell _ _ _ _ (by show D ≠ w.heap.size; omega)).trans hK)
      refine ⟨by simp, .inl ⟨_, _, rfl, run_takeDeferred hK2, ?_⟩⟩
      have e2 := (((hc2.setI 0 (.int .i64 (a : Int))).setOther ⟨w.heap.size + 1, 0, none⟩ (.int .i64 7) (by show w.heap.size + 1 ≠ w.heap.size; omega)).putObj (o' := .deferred none) hK2 rfl).cell 0 _ rfl
      have e3 := (((hc3.setOther ⟨w.heap.size, 0, none⟩ (.int .i64 (a : Int)) (by show w.heap.size ≠ w.heap.size + 1; omega)).setI 0 (.int .i64 7)).putObj (o' := .deferred none) hK2 rfl).cell 0 _ rfl
      refine ⟨wthV (some (a, 7)), by simp [results, Tryz.results152, go_sem, wthV, e2, e3], by rw [HW.out], ?_⟩
      exact ((hB.setCell (p := ⟨w.heap.size, 0, none⟩) (Nat.le_refl _) _).setCell (p := ⟨w.heap.size + 1, 0, none⟩) (by show w.heap.size ≤ w.heap.size + 1; omega) _).trans (belowK_b (w := w) (Nat.le_refl _) _ D _ _ (by omega) hK2 rfl rfl)
  case stop =>
    rintro D c pre W hD hpre ⟨⟨rfl, d, x, rfl, h1, h2, hc2, hc3⟩, hB⟩ hK
    have hW := wth_some (l := s.data.toList) hpre h1 h2
    have hl2 := hc2.lt
    have hl3 := hc3.lt
    have hc2c0 := hc2.cell 0 _ rfl
    have hc2f0 := hc2.frozen 0
    have hc3c0 := hc3.cell 0 _ rfl
    have hc3f0 := hc3.frozen 0
    gi_wp2
    refine ⟨by simp, .inl ⟨_, _, rfl, run_takeDeferred hK, ?_⟩⟩
    have e2 := (hc2.putObj (o' := .deferred none) hK rfl).cell 0 _ rfl
    have e3 := (hc3.putObj (o' := .deferred none) hK rfl).cell 0 _ rfl
    refine ⟨wthV (some (x.1, 3)), by simp [results, Tryz.results152, go_sem, wthV, e2, e3], by rw [hW], ?_⟩
    exact hB.trans (belowK_b (w := w) (Nat.le_refl _) W D _ _ (by omega) hK rfl rfl)
end Go.Proofs.YtjlikcfabekhlaaGreatDoor
