/- Texts of this claim, one behind the other: ExH, ExQ, ExI, ExJ. -/
import Derived.Test.YthmmgpbojbjihaaGreatDoorMgb
import Derived.Test.YthmmgpbojbjihaaGreatDoorMgc
import Derived.Laws.EntriesVeiled
set_option linter.unusedSimpArgs false
set_option linter.unusedVariables false

/- The parser of expressions: a term of the highest level (layer 12). -/
namespace Go.Proofs.YthmmgpbojbjihaaGreatDoor
open Go.RowKit Go.Tab

abbrev zeroC : Array Value := #[.string ⟨#[]⟩, .string ⟨#[]⟩, .slice none 0 0]
/-- The result's box q, and what has been kept since w0. -/
structure Rs (w0 : World) (q g : Nat) (w : World) : Prop where
  save : Save g w0 w
  res : Cells w q zeroC 34
  qg : q ≠ g
  q0 : w0.heap.size ≤ q
section
variable {w0 w w' : World} {q g : Nat}
theorem Rs.step (h : Rs w0 q g w) (hs : Save g w w') : Rs w0 q g w' := ⟨h.save.trans hs, hs.cells h.res h.qg, h.qg, h.q0⟩
theorem Rs.below (h : Rs w0 q g w) (hb : Below w.heap.size w w') : Rs w0 q g w' := h.step (Save.of hb)
theorem Rs.start {lv : Value} {l : List Tok} {k : Nat} (h : Prs w0 g lv l k) : Rs w0 w0.heap.size g (w0.alloc (.cells zeroC 34)) :=
  ⟨(Save.refl _ _).alloc _, Cells.new _ _ _, by have := h.box.lt; omega, Nat.le_refl _⟩
theorem Prs.step {lv : Value} {l : List Tok} {k : Nat} (h : Prs w g lv l k) (hb : Below w.heap.size w w') : Prs w' g lv l k := h.go (Save.of hb) (h.box.below hb h.box.lt) h.le
theorem Rs.fin (h : Rs w0 q g w) (vals : List Value) : Save g w0 (setAll w q 0 vals) :=
  ⟨setAll_below q 0 (Nat.zero_le _) vals 0 _ _ h.save.1, fun k hk hn => (setAll_other q vals 0 w k (by have := h.q0; omega)).trans (h.save.2 k hk hn)⟩
theorem Rs.prc {lv : Value} {k e : Int} (h : Rs w0 q g w) (hc : PrC w g lv k e) (vals : List Value) : PrC (setAll w q 0 vals) g lv k e := hc.setAllOther (fun e => h.qg e.symm)
/-- One kid. -/
theorem node1 {B : Nat} {op text o t : ByteArray} {a : Option Addr} {n c : Nat} {x : Exp} {vals : List Value} (hB : B ≤ w.heap.size) (hx : ExpIn (fun b => B ≤ b ∧ b ≠ q) w x (expV o t (.slice a n c))) :
    ExpIn (fun b => B ≤ b) ((setAll w q 0 vals).alloc (.cells #[.string o, .string t, .slice a n c] 34)) (.mk op text [x]) [.string op, .string text, .slice (some ⟨w.heap.size, 0, none⟩) 1 1] :=
  node_new (q := q) (vals := vals) hB [(x, expV o t (.slice a n c))] (by intro s hs; simp at hs; subst hs; exact hx) (by unfold maxLen; simp)
theorem ExpIn.past {B : Nat} {x : Exp} {cs : List Value} (h : ExpIn (fun b => B ≤ b) w x cs) {B2 : Nat} (h1 : B2 ≤ B) (h2 : q < B) : ExpIn (fun b => B2 ≤ b ∧ b ≠ q) w x cs :=
  ExpIn.move (Nat.le_refl _) (fun _ _ _ => rfl) (fun b hb _ => ⟨Nat.le_trans h1 hb, by omega⟩) _ _ h
end

theorem isS_both {r : List Tok} (h : isS r sMinus = true) : isS r sBang = false := by
  unfold isS at h ⊢
  cases r with
  | nil => rfl
  | cons t r =>
    simp only [Bool.and_eq_true, decide_eq_true_eq] at h
    simp only [Bool.and_eq_false_iff, decide_eq_false_iff_not]
    right
    rw [h.2]; decide
/-- A result that is handed on: it lies past the box. -/
theorem ExpIn.keep {w : World} {q B B2 : Nat} {x : Exp} {cs vals : List Value} (h1 : B2 ≤ B) (h2 : q < B) (h : ExpIn (fun b => B ≤ b) w x cs) : ExpIn (fun b => B2 ≤ b) (setAll w q 0 vals) x cs :=
  ExpIn.move (by rw [setAll_size]; exact Nat.le_refl _) (fun b hb _ => setAll_other _ _ 0 _ b (by omega)) (fun b hb _ => Nat.le_trans h1 hb) _ _ h
theorem andX_ne {g : GotX} {f : Exp → Nat → GotX} (h : (andX g f).2.2 ≠ -1) : g.2.2 ≠ -1 := by
  unfold andX at h
  split at h
  · next he => rw [he]; decide
  · exact h
set_option maxHeartbeats 4000000 in
set_option maxRecDepth 100000 in
theorem tight_step (m : Nat) (hT : TightC m) (hP : PostC m) : TightC (m + 1) := by
  intro w g lv l k d h hd hne
  obtain ⟨a0, n0, c0, rfl⟩ := h.sl
  have hR := Rs.start h
  have h1 := h.step ((Below.refl _ w).alloc (Nat.le_refl _) (.cells zeroC 34))
  have hkl := h.le
  have hsm := h.small
  rw [parX] at hne ⊢
  have hI1 := is_ok _ g _ l k sBang h1
  by_cases s1 : isS (l.drop k) sBang = true
  · rw [if_neg (by rw [s1]; simp)] at hne ⊢
    rw [s1] at hI1
    rw [if_pos s1] at hne ⊢
    by_cases hd6 : 64 ≤ d
    · rw [if_pos hd6]
      clear hne
      go_enter Tryz.func75, Tryz.ntmps75
      go_wp2_with fail
      refine hI1.mono ?_
      rintro _ w2 ⟨rfl, hb2⟩
      have h2 := h1.step hb2
      have hR2 := hR.below hb2
      go_wp2_with fail
      refine (into_no w2 g _ k d h2.box hd6).mono ?_
      rintro _ w3 ⟨rfl, hc9, hs3⟩
      have hR9 := hR2.step hs3
      clear hs3 hR2 h2 hb2 hR h1 h
      have hrl := hR9.res.lt
      have HR := Lib.hid (And.intro hR9 hc9)
      have hres := hR9.res
      clear hR9 hc9
      have hresc0 := hres.cell 0 _ rfl
      have hresf0 := hres.frozen 0
      have hresc1 := hres.cell 1 _ rfl
      have hresf1 := hres.frozen 1
      have hresc2 := hres.cell 2 _ rfl
      have hresf2 := hres.frozen 2
      clear hres
      go_wp2
      obtain ⟨hR9, hc9⟩ := HR.out
      have hq := ((hR9.res.setI 0 (.string ⟨#[]⟩)).setI 1 (.string ⟨#[]⟩)).setI 2 (.slice none 0 0)
      have hx := hq.cell 0 _ rfl
      have hy := hq.cell 1 _ rfl
      have hz := hq.cell 2 _ rfl
      refine bodyPost_ret (v := .agg #[.string ⟨#[]⟩, .string ⟨#[]⟩, .slice none 0 0]) (by simp [results, Tryz.results75, go_sem, hx, hy, hz]) rfl ?_
      have hS9 := hR9.fin [.string ⟨#[]⟩, .string ⟨#[]⟩, .slice none 0 0]
      have hP9 := hR9.prc hc9 [.string ⟨#[]⟩, .string ⟨#[]⟩, .slice none 0 0]
      show XP g (.slice a0 n0 c0) k _ w _ (setAll w3 w.heap.size 0 [.string ⟨#[]⟩, .string ⟨#[]⟩, .slice none 0 0])
      exact ⟨hS9, hP9, _, _, _, _, _, rfl, fun h => by cases h⟩
    · rw [if_neg hd6, List.drop_drop] at hne
      rw [if_neg hd6, List.drop_drop]
      have hl1 := isS_some s1
      rw [List.length_drop] at hl1
      have hr1 := andX_ne hne
      simp only [upX] at hr1
      have hTT := fun w3 h3 => hT w3 g (.slice a0 n0 c0) l (k + 1) (d + 1) h3 (by omega) hr1
      rw [show ((d + 1 : Nat) : Int) = (d : Int) + 1 by omega] at hTT
      clear hne hr1
      generalize parX m .tight (l.drop (k + 1)) (d + 1) = r1 at *
      obtain ⟨x1, n1, e1⟩ := r1
      go_enter Tryz.func75, Tryz.ntmps75
      go_wp2_with fail
      refine hI1.mono ?_
      rintro _ w2 ⟨rfl, hb2⟩
      have h2 := h1.step hb2
      have hR2 := hR.below hb2
      go_wp2_with fail
      refine (into_yes w2 g _ k d h2.box (by omega) (by omega)).mono ?_
      rintro _ w3 ⟨rfl, hc3, hs3⟩
      have h3 := h2.go hs3 hc3 (by omega)
      have hR3 := hR2.step hs3
      go_wp2_with fail
      refine (hTT w3 h3).mono ?_
      rintro _ w4 ⟨hs4, hc9, o, t, a, n, c, rfl, hX⟩
      have hR9 := hR3.step hs4
      have hsz := hR3.res.lt
      have hw0 := hR3.save.size
      have HX := Lib.hid hX
      clear hX hs4 hR3 h3 hs3 hc3 hR2 h2 hb2 hR h1 h hTT
      simp only at hc9
      have hrl := hR9.res.lt
      have HR := Lib.hid (And.intro hR9 hc9)
      have hres := hR9.res
      clear hR9 hc9
      have hresc0 := hres.cell 0 _ rfl
      have hresf0 := hres.frozen 0
      have hresc1 := hres.cell 1 _ rfl
      have hresf1 := hres.frozen 1
      have hresc2 := hres.cell 2 _ rfl
      have hresf2 := hres.frozen 2
      clear hres
      have hB9 := HR.out.1.save.size
      go_wp2
      obtain ⟨hR9, hc9⟩ := HR.out
      have hq := (((hR9.res.setI 0 (.string sBang)).setI 1 (.string ⟨#[]⟩)).setI 2 (.slice (some ⟨w4.heap.size, 0, none⟩) 1 1)).alloc (.cells #[.string o, .string t, .slice a n c] 34)
      have hx := hq.cell 0 _ rfl
      have hy := hq.cell 1 _ rfl
      have hz := hq.cell 2 _ rfl
      refine bodyPost_ret (v := .agg #[.string sBang, .string ⟨#[]⟩, .slice (some ⟨w4.heap.size, 0, none⟩) 1 1]) (by simp [results, Tryz.results75, go_sem, hx, hy, hz]) rfl ?_
      have hS9 := (hR9.fin [.string sBang, .string ⟨#[]⟩, .slice (some ⟨w4.heap.size, 0, none⟩) 1 1]).alloc (.cells #[.string o, .string t, .slice a n c] 34)
      have hP9 := (hR9.prc hc9 [.string sBang, .string ⟨#[]⟩, .slice (some ⟨w4.heap.size, 0, none⟩) 1 1]).alloc (.cells #[.string o, .string t, .slice a n c] 34)
      show XP g (.slice a0 n0 c0) k _ w _ ((setAll w4 w.heap.size 0 [.string sBang, .string ⟨#[]⟩, .slice (some ⟨w4.heap.size, 0, none⟩) 1 1]).alloc (.cells #[.string o, .string t, .slice a n c] 34))
      by_cases he : e1 = 0
      · subst he
        rw [show k + 1 + n1 = k + (1 + n1) by omega] at hP9
        rw [andX_ok (by rfl)]
        simp only [upX]
        exact ⟨hS9, hP9, _, _, _, _, _, rfl, fun _ => node1 (q := w.heap.size) (op := sBang) (text := ⟨#[]⟩) (vals := [.string sBang, .string ⟨#[]⟩, .slice (some ⟨w4.heap.size, 0, none⟩) 1 1]) hB9 (ExpIn.past (HX.out rfl) hw0 hsz)⟩
      · rw [show k + 1 + n1 = k + (1 + n1) by omega] at hP9
        rw [andX_bad (by exact he)]
        exact ⟨hS9, hP9, _, _, _, _, _, rfl, fun h => absurd h he⟩
  · have s1f : isS (l.drop k) sBang = false := by simpa using s1
    rw [s1f] at hI1
    by_cases s2 : isS (l.drop k) sMinus = true
    · rw [if_neg (by rw [s2]; simp)] at hne ⊢
      rw [if_neg s1] at hne ⊢
      by_cases hd6 : 64 ≤ d
      · rw [if_pos hd6]
        clear hne
        go_enter Tryz.func75, Tryz.ntmps75
        go_wp2_with fail
        refine hI1.mono ?_
        rintro _ w1 ⟨rfl, hb1⟩
        have h11 := h1.step hb1
        go_wp2_with fail
        refine (is_ok _ g _ l k sMinus h11).mono ?_
        rw [s2]
        rintro _ w2 ⟨rfl, hb9⟩
        have hb2 : Below (w.alloc (.cells zeroC 34)).heap.size (w.alloc (.cells zeroC 34)) w2 := hb1.trans (hb9.mono hb1.size)
        clear hb9 hb1 h11
        have h2 := h1.step hb2
        have hR2 := hR.below hb2
        go_wp2_with fail
        refine (into_no w2 g _ k d h2.box hd6).mono ?_
        rintro _ w3 ⟨rfl, hc9, hs3⟩
        have hR9 := hR2.step hs3
        clear hs3 hR2 h2 hb2 hR h1 h
        have hrl := hR9.res.lt
        have HR := Lib.hid (And.intro hR9 hc9)
        have hres := hR9.res
        clear hR9 hc9
        have hresc0 := hres.cell 0 _ rfl
        have hresf0 := hres.frozen 0
        have hresc1 := hres.cell 1 _ rfl
        have hresf1 := hres.frozen 1
        have hresc2 := hres.cell 2 _ rfl
        have hresf2 := hres.frozen 2
        clear hres
        go_wp2
        obtain ⟨hR9, hc9⟩ := HR.out
        have hq := ((hR9.res.setI 0 (.string ⟨#[]⟩)).setI 1 (.string ⟨#[]⟩)).setI 2 (.slice none 0 0)
        have hx := hq.cell 0 _ rfl
        have hy := hq.cell 1 _ rfl
        have hz := hq.cell 2 _ rfl
        refine bodyPost_ret (v := .agg #[.string ⟨#[]⟩, .string ⟨#[]⟩, .slice none 0 0]) (by simp [results, Tryz.results75, go_sem, hx, hy, hz]) rfl ?_
        have hS9 := hR9.fin [.string ⟨#[]⟩, .string ⟨#[]⟩, .slice none 0 0]
        have hP9 := hR9.prc hc9 [.string ⟨#[]⟩, .string ⟨#[]⟩, .slice none 0 0]
        show XP g (.slice a0 n0 c0) k _ w _ (setAll w3 w.heap.size 0 [.string ⟨#[]⟩, .string ⟨#[]⟩, .slice none 0 0])
        exact ⟨hS9, hP9, _, _, _, _, _, rfl, fun h => by cases h⟩
      · rw [if_neg hd6, List.drop_drop] at hne
        rw [if_neg hd6, List.drop_drop]
        have hl1 := isS_some s2
        rw [List.length_drop] at hl1
        have hr1 := andX_ne hne
        simp only [upX] at hr1
        have hTT := fun w3 h3 => hT w3 g (.slice a0 n0 c0) l (k + 1) (d + 1) h3 (by omega) hr1
        rw [show ((d + 1 : Nat) : Int) = (d : Int) + 1 by omega] at hTT
        clear hne hr1
        generalize parX m .tight (l.drop (k + 1)) (d + 1) = r1 at *
        obtain ⟨x1, n1, e1⟩ := r1
        go_enter Tryz.func75, Tryz.ntmps75
        go_wp2_with fail
        refine hI1.mono ?_
        rintro _ w1 ⟨rfl, hb1⟩
        have h11 := h1.step hb1
        go_wp2_with fail
        refine (is_ok _ g _ l k sMinus h11).mono ?_
        rw [s2]
        rintro _ w2 ⟨rfl, hb9⟩
        have hb2 : Below (w.alloc (.cells zeroC 34)).heap.size (w.alloc (.cells zeroC 34)) w2 := hb1.trans (hb9.mono hb1.size)
        clear hb9 hb1 h11
        have h2 := h1.step hb2
        have hR2 := hR.below hb2
        go_wp2_with fail
        refine (into_yes w2 g _ k d h2.box (by omega) (by omega)).mono ?_
        rintro _ w3 ⟨rfl, hc3, hs3⟩
        have h3 := h2.go hs3 hc3 (by omega)
        have hR3 := hR2.step hs3
        go_wp2_with fail
        refine (hTT w3 h3).mono ?_
        rintro _ w4 ⟨hs4, hc9, o, t, a, n, c, rfl, hX⟩
        have hR9 := hR3.step hs4
        have hsz := hR3.res.lt
        have hw0 := hR3.save.size
        have HX := Lib.hid hX
        clear hX hs4 hR3 h3 hs3 hc3 hR2 h2 hb2 hR h1 h hTT
        simp only at hc9
        have hrl := hR9.res.lt
        have HR := Lib.hid (And.intro hR9 hc9)
        have hres := hR9.res
        clear hR9 hc9
        have hresc0 := hres.cell 0 _ rfl
        have hresf0 := hres.frozen 0
        have hresc1 := hres.cell 1 _ rfl
        have hresf1 := hres.frozen 1
        have hresc2 := hres.cell 2 _ rfl
        have hresf2 := hres.frozen 2
        clear hres
        have hB9 := HR.out.1.save.size
        go_wp2
        obtain ⟨hR9, hc9⟩ := HR.out
        have hq := (((hR9.res.setI 0 (.string oNeg)).setI 1 (.string ⟨#[]⟩)).setI 2 (.slice (some ⟨w4.heap.size, 0, none⟩) 1 1)).alloc (.cells #[.string o, .string t, .slice a n c] 34)
        have hx := hq.cell 0 _ rfl
        have hy := hq.cell 1 _ rfl
        have hz := hq.cell 2 _ rfl
        refine bodyPost_ret (v := .agg #[.string oNeg, .string ⟨#[]⟩, .slice (some ⟨w4.heap.size, 0, none⟩) 1 1]) (by simp [results, Tryz.results75, go_sem, hx, hy, hz]) rfl ?_
        have hS9 := (hR9.fin [.string oNeg, .string ⟨#[]⟩, .slice (some ⟨w4.heap.size, 0, none⟩) 1 1]).alloc (.cells #[.string o, .string t, .slice a n c] 34)
        have hP9 := (hR9.prc hc9 [.string oNeg, .string ⟨#[]⟩, .slice (some ⟨w4.heap.size, 0, none⟩) 1 1]).alloc (.cells #[.string o, .string t, .slice a n c] 34)
        show XP g (.slice a0 n0 c0) k _ w _ ((setAll w4 w.heap.size 0 [.string oNeg, .string ⟨#[]⟩, .slice (some ⟨w4.heap.size, 0, none⟩) 1 1]).alloc (.cells #[.string o, .string t, .slice a n c] 34))
        by_cases he : e1 = 0
        · subst he
          rw [show k + 1 + n1 = k + (1 + n1) by omega] at hP9
          rw [andX_ok (by rfl)]
          simp only [upX]
          exact ⟨hS9, hP9, _, _, _, _, _, rfl, fun _ => node1 (q := w.heap.size) (op := oNeg) (text := ⟨#[]⟩) (vals := [.string oNeg, .string ⟨#[]⟩, .slice (some ⟨w4.heap.size, 0, none⟩) 1 1]) hB9 (ExpIn.past (HX.out rfl) hw0 hsz)⟩
        · rw [show k + 1 + n1 = k + (1 + n1) by omega] at hP9
          rw [andX_bad (by exact he)]
          exact ⟨hS9, hP9, _, _, _, _, _, rfl, fun h => absurd h he⟩
    · have s2f : isS (l.drop k) sMinus = false := by simpa using s2
      rw [if_pos ⟨s1f, s2f⟩] at hne ⊢
      have hPP := fun w3 h3 => hP w3 g (.slice a0 n0 c0) l k d h3 hd hne
      clear hne
      generalize parX m .post (l.drop k) d = r1 at *
      obtain ⟨x1, n1, e1⟩ := r1
      go_enter Tryz.func75, Tryz.ntmps75
      go_wp2_with fail
      refine hI1.mono ?_
      rintro _ w1 ⟨rfl, hb1⟩
      have h11 := h1.step hb1
      go_wp2_with fail
      refine (is_ok _ g _ l k sMinus h11).mono ?_
      rw [s2f]
      rintro _ w2 ⟨rfl, hb2⟩
      have h2 := h11.step hb2
      have hR2 := (hR.below hb1).below hb2
      go_wp2_with fail
      refine (hPP w2 h2).mono ?_
      rintro _ w4 ⟨hs4, hc9, o, t, a, n, c, rfl, hX⟩
      have hR9 := hR2.step hs4
      have hsz := hR2.res.lt
      have hw0 := hR2.save.size
      have HX := Lib.hid hX
      clear hX hs4 hR2 h2 hb2 h11 hb1 hR h1 h hPP
      simp only at hc9
      have hrl := hR9.res.lt
      have HR := Lib.hid (And.intro hR9 hc9)
      have hres := hR9.res
      clear hR9 hc9
      have hresc0 := hres.cell 0 _ rfl
      have hresf0 := hres.frozen 0
      have hresc1 := hres.cell 1 _ rfl
      have hresf1 := hres.frozen 1
      have hresc2 := hres.cell 2 _ rfl
      have hresf2 := hres.frozen 2
      clear hres
      go_wp2
      obtain ⟨hR9, hc9⟩ := HR.out
      have hq := ((hR9.res.setI 0 (.string o)).setI 1 (.string t)).setI 2 (.slice a n c)
      have hx := hq.cell 0 _ rfl
      have hy := hq.cell 1 _ rfl
      have hz := hq.cell 2 _ rfl
      refine bodyPost_ret (v := .agg #[.string o, .string t, .slice a n c]) (by simp [results, Tryz.results75, go_sem, hx, hy, hz]) rfl ?_
      have hS9 := hR9.fin [.string o, .string t, .slice a n c]
      have hP9 := hR9.prc hc9 [.string o, .string t, .slice a n c]
      show XP g (.slice a0 n0 c0) k _ w _ (setAll w4 w.heap.size 0 [.string o, .string t, .slice a n c])
      exact ⟨hS9, hP9, _, _, _, _, _, rfl, fun he => ExpIn.keep hw0 hsz (HX.out he)⟩
end Go.Proofs.YthmmgpbojbjihaaGreatDoor

/- Plain law of layer 12: what is told of tokens has no more of them than there are. -/
namespace Go.Proofs.YthmmgpbojbjihaaGreatDoor

/-- Well told, if not out of fuel: no more tokens than there are. -/
def FineY (m : Nat) (r : List Tok) (g : GotX) : Prop := g.2.2 ≠ -1 → g.2.1 ≤ r.length ∧ (g.2.2 = 0 → m ≤ g.2.1)
theorem FineY.and {m m2 : Nat} {r : List Tok} {g : GotX} {f : Exp → Nat → GotX} (h : FineY m r g) (hf : g.2.2 = 0 → m ≤ g.2.1 → g.2.1 ≤ r.length → FineY m2 r (f g.1 g.2.1)) : FineY m2 r (andX g f) := by
  by_cases he : g.2.2 = 0
  · rw [andX_ok he]
    have h1 := h (by rw [he]; decide)
    exact hf he (h1.2 he) h1.1
  · rw [andX_bad he]; exact fun hn => ⟨(h hn).1, fun e => absurd e he⟩
theorem FineY.up {m n : Nat} {r : List Tok} {g : GotX} (h : FineY m (r.drop n) g) (hn : n ≤ r.length) : FineY (n + m) r (upX n g) := by
  intro h0
  obtain ⟨h2, h3⟩ := h h0
  rw [List.length_drop] at h2
  exact ⟨by simp only [upX]; omega, fun e => by have := h3 e; simp only [upX]; omega⟩
theorem FineY.less {m m2 : Nat} {r : List Tok} {g : GotX} (h : FineY m r g) (hm : m2 ≤ m) : FineY m2 r g := fun h0 => ⟨(h h0).1, fun e => Nat.le_trans hm ((h h0).2 e)⟩
theorem FineY.ok {m n : Nat} {r : List Tok} {x : Exp} (h1 : n ≤ r.length) (h2 : m ≤ n) : FineY m r (x, n, 0) := fun _ => ⟨h1, fun _ => h2⟩
theorem FineY.bad {m : Nat} {r q : List Tok} {n : Nat} (hn : n ≤ r.length) : FineY m r (badX q n) := by
  unfold badX
  split
  · exact fun _ => ⟨hn, fun e => by cases e⟩
  · exact fun _ => ⟨hn, fun e => by cases e⟩
theorem FineY.deep {m : Nat} {r : List Tok} {n : Nat} (hn : n ≤ r.length) : FineY m r (deepX n) := fun _ => ⟨hn, fun e => by cases e⟩
/-- No more tokens than there are. -/
theorem parX_le : ∀ (n : Nat) (t : Nt) (r : List Tok) (d : Nat), t.okX r → FineY t.least r (parX n t r d) := by
  intro n
  induction n with
  | zero =>
    intro t r d _ h
    exact absurd rfl h
  | succ n ih =>
    intro t r d ht
    have IH : ∀ (t : Nt) (r : List Tok) (d : Nat), t.okX r → FineY t.least r (parX n t r d) := fun t r d h => ih t r d h
    clear ih
    cases t with
    | choice =>
      rw [parX]
      refine (IH (.term 1) r d (by simp only [Nt.okX]; omega)).and fun _ h1 h2 => ?_
      simp only [Nt.least] at h1 ⊢
      split
      · exact (.ok (h2) (h1))
      · next hq =>
        have hq := len_drop1 (isS_none hq)
        split
        · exact .deep h2
        · refine ((IH .choice (r.drop _) (d + 1) (by simp only [Nt.okX]; try omega)).up hq).and fun _ h3 h4 => ?_
          simp only [Nt.least] at h3
          split
          · exact .bad h4
          · next hc =>
            have hc := len_drop1 (isS_none hc)
            refine ((IH .choice (r.drop _) (d + 1) (by simp only [Nt.okX]; try omega)).up hc).and fun _ h5 h6 => ?_
            exact (.ok (h6) (by simp only [Nt.least] at *; omega))
    | term lv =>
      simp only [Nt.okX] at ht
      rw [parX]
      split
      · exact IH .tight r d (by simp only [Nt.okX]; try omega)
      · refine (IH (.term (lv + 1)) r d (by simp only [Nt.okX]; omega)).and fun _ h1 h2 => ?_
        simp only [Nt.least] at h1
        exact ((IH (.tloop lv _) (r.drop _) d (by simp only [Nt.okX]; try omega)).up h2).less (by simp only [Nt.least]; omega)
    | tloop lv a =>
      rw [parX]
      split
      · exact (.ok (Nat.zero_le _) (Nat.zero_le _))
      · next o ho =>
        have hl := isL_some ho
        refine ((IH (.term (lv + 1)) (r.drop 1) d (by simp only [Nt.okX] at ht ⊢; omega)).up hl).and fun _ h1 h2 => ?_
        simp only [Nt.least] at h1
        exact ((IH (.tloop lv _) (r.drop _) d ht).up h2).less (Nat.zero_le _)
    | tight =>
      rw [parX]
      split
      · exact IH .post r d (by simp only [Nt.okX]; try omega)
      · next hs =>
        have hl : 1 ≤ r.length := by
          by_cases h1 : isS r sBang = false
          · exact isS_none (w := sMinus) (fun h2 => hs ⟨h1, h2⟩)
          · exact isS_none h1
        split
        · exact .deep (Nat.zero_le _)
        · refine ((IH .tight (r.drop 1) (d + 1) (by simp only [Nt.okX]; try omega)).up hl).and fun _ h1 h2 => ?_
          exact (.ok (h2) (by simp only [Nt.least] at *; omega))
    | post =>
      rw [parX]
      refine (IH .prime r d (by simp only [Nt.okX]; try omega)).and fun _ h1 h2 => ?_
      simp only [Nt.least] at h1
      exact ((IH (.ploop _) (r.drop _) d (by simp only [Nt.okX]; try omega)).up h2).less (by simp only [Nt.least]; omega)
    | ploop a =>
      rw [parX]
      split
      · next hs =>
        have hl := isS_some hs
        split
        · exact .bad hl
        · next t q hq =>
          have hl2 : 2 ≤ r.length := by have := congrArg List.length hq; simp at this; omega
          split
          · exact ((IH (.ploop _) (r.drop 2) d (by simp only [Nt.okX]; try omega)).up hl2).less (Nat.zero_le _)
          · exact .bad hl
      · split
        · next hs =>
          have hl := isS_some hs
          split
          · exact .deep (Nat.zero_le _)
          · refine ((IH .choice (r.drop 1) (d + 1) (by simp only [Nt.okX]; try omega)).up hl).and fun _ h1 h2 => ?_
            simp only [Nt.least] at h1
            split
            · exact .bad h2
            · next hb =>
              have hb := len_drop1 (isS_none hb)
              exact ((IH (.ploop _) (r.drop _) d (by simp only [Nt.okX]; try omega)).up hb).less (Nat.zero_le _)
        · exact (.ok (Nat.zero_le _) (Nat.zero_le _))
    | prime =>
      cases r with
      | nil => exact .bad (Nat.zero_le _)
      | cons t r' =>
        simp only [parX]
        split
        · split
          · next hs =>
            have := ((IH (.many sRp) ((t :: r').drop 1) d (isS_some hs)).up (n := 1) (by simp))
            refine this.and fun _ h1 h2 => ?_
            exact (.ok (h2) (by simp only [Nt.least] at *; omega))
          · exact (.ok (by simp) (Nat.le_refl _))
        · split
          · exact (.ok (by simp) (Nat.le_refl _))
          · split
            · split
              · exact fun _ => ⟨Nat.zero_le _, fun e => by cases e⟩
              · exact (.ok (by simp) (Nat.le_refl _))
            · split
              · refine (IH (.many sRb) (t :: r') d (by simp [Nt.okX])).and fun _ h1 h2 => ?_
                exact (.ok (h2) (h1))
              · split
                · split
                  · exact .deep (Nat.zero_le _)
                  · refine ((IH .choice ((t :: r').drop 1) (d + 1) (by simp only [Nt.okX]; try omega)).up (n := 1) (by simp)).and fun _ h1 h2 => ?_
                    simp only [Nt.least] at h1
                    split
                    · exact .bad h2
                    · next hb => exact (.ok (len_drop1 (isS_none hb)) (by simp only [Nt.least] at *; omega))
                · exact .bad (Nat.zero_le _)
    | many s =>
      have hl : 1 ≤ r.length := ht
      rw [parX]
      split
      · exact .deep (Nat.zero_le _)
      · split
        · next hs => exact (.ok (len_drop1 (isS_some hs)) (by simp only [Nt.least] at *; omega))
        · exact ((IH (.mloop s []) (r.drop 1) d (by simp only [Nt.okX]; try omega)).up hl).less (by simp only [Nt.least]; omega)
    | mloop s l =>
      rw [parX]
      refine (IH .choice r (d + 1) (by simp only [Nt.okX]; try omega)).and fun _ h1 h2 => ?_
      simp only [Nt.least] at h1
      split
      · next hs =>
        have hs := len_drop1 (isS_some hs)
        exact ((IH (.mloop s _) (r.drop _) d (by simp only [Nt.okX]; try omega)).up hs).less (by simp only [Nt.least]; omega)
      · split
        · next hs => exact (.ok (len_drop1 (isS_some hs)) (by simp only [Nt.least] at *; omega))
        · exact .bad h2
end Go.Proofs.YthmmgpbojbjihaaGreatDoor

/- The parser of expressions: the closure that reads the terms of a level (layer 12). -/
namespace Go.Proofs.YthmmgpbojbjihaaGreatDoor
open Go.RowKit Go.Tab

/-- Where the parser stands, for the measure. -/
def posOf (w : World) (g : Nat) : Nat := match w.cell? ⟨g, 1, none⟩ with
  | some (.int _ n) => n.toNat
  | _ => 0
theorem PrC.pos {w : World} {g : Nat} {lv : Value} {k : Nat} {e : Int} (h : PrC w g lv (k : Nat) e) : posOf w g = k := by
  unfold posOf
  rw [Cells.cell h 1 (.int .i64 (k : Nat)) rfl]
  simp
/-- Between two rounds of a level's loop. -/
def TL (w0 : World) (q q2 g bp bd bt : Nat) (lv : Value) (l : List Tok) (k d n m : Nat) (R : GotX) (wr : World) : Prop :=
  Rs w0 q g wr ∧ TBox wr g bp bd bt d ∧ ∃ o t a nn c, Cells wr q2 #[.string o, .string t, .slice a nn c] 34 ∧
    ((∃ j x k', j ≤ m ∧ Prs wr g lv l k' ∧ k ≤ k' ∧ R = upX (k' - k) (parX j (.tloop n x) (l.drop k') d) ∧ ExpIn (fun b => w0.heap.size ≤ b ∧ b ≠ q ∧ b ≠ q2) wr x (expV o t (.slice a nn c))) ∨
     (∃ (k' : Nat) (e : Int), PrC wr g lv (k' : Nat) e ∧ e ≠ 0 ∧ k ≤ k' ∧ R = (zeroX, k' - k, e)))
theorem upX_upX (a b : Nat) (g : GotX) : upX a (upX b g) = upX (a + b) g := by unfold upX; simp only [Nat.add_assoc]
theorem node_at {P : Nat → Prop} {b : Nat} {W : World} {op text : ByteArray} (kids : List (Exp × List Value)) (hc : Cells W b (kids.flatMap (·.2)).toArray 34) (hP : P b) (hk : ∀ s ∈ kids, ExpIn P W s.1 s.2) (hm : kids.length ≤ maxLen) :
    ExpIn P W (.mk op text (kids.map (·.1))) [.string op, .string text, .slice (some ⟨b, 0, none⟩) kids.length kids.length] := by
  have hlen : (kids.map (·.1)).length = kids.length := List.length_map ..
  have h3 : ∀ s ∈ kids, s.2.length = 3 := fun s hs => (hk s hs).len3
  simp only [ExpIn]
  refine ⟨some ⟨b, 0, none⟩, kids.length, by rw [hlen], by rw [hlen]; exact Nat.le_refl _, hm, (fun h => by cases h), fun x hx _ => ?_⟩
  cases hx
  refine ⟨rfl, ⟨hc.lt, hP, fun off => hc.frozen off⟩, ExpsIn.make _ 0 (fun k hkl => ?_)⟩
  rw [hlen] at hkl
  refine ⟨kids[k].2, fun j u hu => ?_, ?_⟩
  · rw [Nat.zero_add]
    refine hc.cell _ _ ?_
    have hj : j < 3 := by have := (List.getElem?_eq_some_iff.1 hu).1; rw [h3 _ (List.getElem_mem hkl)] at this; exact this
    simp only [List.getElem?_toArray]
    rw [flat3_get kids h3 k hkl j hj]; exact hu
  · rw [List.getElem_map]
    exact hk _ (List.getElem_mem hkl)
theorem Save.setAllNew {w w' : World} {g q : Nat} (h : Save g w w') (hq : w.heap.size ≤ q) (vals : List Value) : Save g w (setAll w' q 0 vals) :=
  ⟨setAll_below q 0 (Nat.zero_le _) vals 0 _ _ h.1, fun k hk hn => (setAll_other q vals 0 w' k (by omega)).trans (h.2 k hk hn)⟩
theorem upX_andX (a : Nat) (g : GotX) (f : Exp → Nat → GotX) : upX a (andX g f) = andX g (fun x k => upX a (f x k)) ∨ True := .inr trivial

set_option maxHeartbeats 4000000 in
set_option maxRecDepth 100000 in
theorem term_step (m : Nat) (hT : TightC m) (hTm : ∀ j, j ≤ m → TermC j) : TermC (m + 1) := by
  intro w g lv l k d n bp bd bt h hB hd hn1 hn7 hne
  obtain ⟨a0, n0, c0, rfl⟩ := h.sl
  have hR := Rs.start h
  have h1 := h.step ((Below.refl _ w).alloc (Nat.le_refl _) (.cells zeroC 34))
  have hB1 := hB.save ((Save.refl g w).alloc (.cells zeroC 34))
  have hkl := h.le
  have hsm := h.small
  have hgw := h.box.lt
  have H0 := Lib.hid (And.intro h hB)
  rw [parX] at hne ⊢
  have hpl := hB1.p.lt
  have hdl := hB1.d.lt
  have htl := hB1.t.lt
  have hbp := hB1.p.cell 0 _ rfl
  have hbd := hB1.d.cell 0 _ rfl
  have hbt := hB1.t.cell 0 _ rfl
  by_cases h7 : n = 7
  · subst h7
    rw [if_pos (by omega)] at hne ⊢
    have hTT := fun w3 h3 => hT w3 g (.slice a0 n0 c0) l k d h3 hd hne
    clear hne
    generalize parX m .tight (l.drop k) d = r1 at *
    obtain ⟨x1, n1, e1⟩ := r1
    go_enter Tryz.func74, Tryz.ntmps74
    go_wp2_with fail
    refine (hTT _ h1).mono ?_
    rintro _ w4 ⟨hs4, hc9, o, t, a, n, c, rfl, hX⟩
    have hR9 := hR.step hs4
    have hsz : w.heap.size < (w.alloc (.cells zeroC 34)).heap.size := by simp
    have hw0 : w.heap.size ≤ (w.alloc (.cells zeroC 34)).heap.size := by simp
    have HX := Lib.hid hX
    clear hX hs4 hR h1 h hTT hB hB1 hbp hbd hbt
    simp only at hc9
    have hrl := hR9.res.lt
    have HR := Lib.hid (And.intro hR9 hc9)
    have hres := hR9.res
    clear hR9 hc9
    have hresc0 := hres.cell 0 _ rfl
    have hresf0 := hres.frozen 0
    have hresc1 := hres.cell 1 _ rfl
    have hresf1 := hres.frozen 1
    have hresc2 := hres.cell 2 _ rfl
    have hresf2 := hres.frozen 2
    clear hres
    go_wp2
    obtain ⟨hR9, hc9⟩ := HR.out
    have hq := ((hR9.res.setI 0 (.string o)).setI 1 (.string t)).setI 2 (.slice a n c)
    have hx := hq.cell 0 _ rfl
    have hy := hq.cell 1 _ rfl
    have hz := hq.cell 2 _ rfl
    refine bodyPost_ret (v := .agg #[.string o, .string t, .slice a n c]) (by simp [results, Tryz.results74, go_sem, hx, hy, hz]) rfl ?_
    have hS9 := hR9.fin [.string o, .string t, .slice a n c]
    have hP9 := hR9.prc hc9 [.string o, .string t, .slice a n c]
    show XP g (.slice a0 n0 c0) k _ w _ (setAll w4 w.heap.size 0 [.string o, .string t, .slice a n c])
    exact ⟨hS9, hP9, _, _, _, _, _, rfl, fun he => ExpIn.keep hw0 hsz (HX.out he)⟩
  · have hn6 : n < 7 := by omega
    have hnb : ((n : Int) == 7) = false := by rw [beq_eq_false_iff_ne]; omega
    rw [if_neg (by omega)] at hne ⊢
    have hr1 := andX_ne hne
    have hle1 : (parX m (.term (n + 1)) (l.drop k) d).2.1 ≤ (l.drop k).length := (parX_le m (.term (n + 1)) (l.drop k) d (by simp only [Nt.okX]; omega) hr1).1
    have hTT := fun w3 h3 hb3 => hTm m (Nat.le_refl _) w3 g (.slice a0 n0 c0) l k d (n + 1) bp bd bt h3 hb3 hd (by omega) (by omega) hr1
    rw [show ((n + 1 : Nat) : Int) = (n : Int) + 1 by omega] at hTT
    obtain ⟨R, hRR⟩ : ∃ R, (andX (parX m (.term (n + 1)) (l.drop k) d) fun a k2 => upX k2 (parX m (.tloop n a) ((l.drop k).drop k2) d)) = R := ⟨_, rfl⟩
    rw [hRR] at hne ⊢
    have HRR := Lib.hid hRR
    clear hRR hr1 h7
    generalize parX m (.term (n + 1)) (l.drop k) d = r1 at *
    obtain ⟨x1, n1, e1⟩ := r1
    go_enter Tryz.func74, Tryz.ntmps74
    go_wp2_with fail
    refine (hTT _ h1 hB1).mono ?_
    rintro _ w4 ⟨hs4, hc4, o, t, a, nn, c, rfl, hX⟩
    simp only at hc4
    have hR4 := hR.step hs4
    have hB4 := hB1.save hs4
    have hz4 := hs4.size
    simp only [World.size_alloc] at hz4
    have hR5 := hR4.below ((Below.refl _ w4).alloc (Nat.le_refl _) (.cells #[.string o, .string t, .slice a nn c] 34))
    have hB5 := hB4.save ((Save.refl g w4).alloc (.cells #[.string o, .string t, .slice a nn c] 34))
    have hc5 := hc4.alloc (.cells #[.string o, .string t, .slice a nn c] 34)
    have hq5 := Cells.new w4 #[.string o, .string t, .slice a nn c] 34
    have hTL : TL w w.heap.size w4.heap.size g bp bd bt (.slice a0 n0 c0) l k d n m R (w4.alloc (.cells #[.string o, .string t, .slice a nn c] 34)) := by
      refine ⟨hR5, hB5, o, t, a, nn, c, hq5, ?_⟩
      by_cases he : e1 = 0
      · subst he
        left
        have hle := hle1
        (try simp only at hle)
        rw [List.length_drop] at hle
        refine ⟨m, x1, k + n1, Nat.le_refl _, (h1.go hs4 hc4 (by omega)).step ((Below.refl _ w4).alloc (Nat.le_refl _) _), by omega, ?_, ?_⟩
        · rw [← HRR.out, andX_ok (by rfl)]
          simp only [List.drop_drop]
          rw [show k + n1 - k = n1 by omega]
        · refine ExpIn.move (by simp) (fun b _ hlt => Below.heap_alloc _ _ _ hlt) (fun b hb hlt => ?_) _ _ (hX rfl)
          simp only [World.size_alloc] at hb
          exact ⟨by omega, by omega, by omega⟩
      · right
        exact ⟨k + n1, e1, hc5, he, by omega, by rw [← HRR.out, andX_bad (by exact he), show k + n1 - k = n1 by omega]⟩
    have HTL := Lib.hid hTL
    clear hTL hX hq5 hc5 hB5 hR5 hB4 hR4 hc4 hs4 hB1 hR h1 h hTT hB hbp hbd hbt hle1 HRR
    have hq2 : w.heap.size < w4.heap.size := by omega
    go_wp2_with fail
    go_loopw [7, 8] (fun _ _ wr => TL w w.heap.size w4.heap.size g bp bd bt (.slice a0 n0 c0) l k d n m R wr) (fun _ _ wr => l.length + 1 - posOf wr g)
    case atStart => exact HTL.out
    case round =>
      clear HTL
      obtain ⟨hR5, hB5, o5, t5, a5, nn5, c5, hq5, hst⟩ := hrel
      have hpl := hB5.p.lt
      have hdl := hB5.d.lt
      have htl := hB5.t.lt
      have hbp := hB5.p.cell 0 _ rfl
      have hbd := hB5.d.cell 0 _ rfl
      have hbt := hB5.t.cell 0 _ rfl
      have hql := hq5.lt
      rcases hst with ⟨j, x, k', hj, h5, hkk, hRe, hX⟩ | ⟨k', e, hc5, he, hkk, hRe⟩
      · cases hil : isL (l.drop k') n with
        | none =>
          have hrn : ((rkN (l.drop k') : Int) == (n : Int)) = false := by
            rw [beq_eq_false_iff_ne]
            intro e
            obtain ⟨o, ho⟩ := (rkN_iff hn1 (by omega)).1 e
            rw [hil] at ho; cases ho
          have hrk := rank_ok wr g _ l k' h5
          have hRx : R = (x, k' - k, 0) := by
            rw [hRe]
            cases j with
            | zero => rw [hRe] at hne; exact absurd rfl hne
            | succ j => rw [parX, hil]; rfl
          generalize rkN (l.drop k') = rk at *
          go_wp2_with fail
          refine hrk.mono ?_
          rintro _ _ ⟨rfl, nd, rfl⟩
          have hR9 := hR5.step ((Save.refl g wr).drewN nd)
          have hc9 := h5.box.drewN nd
          have hq6 := hq5.drewN nd
          have HX := Lib.hid hX
          clear hR5 hB5 h5 hbp hbd hbt hq5 hX hRe hrk
          have hrl := hR9.res.lt
          have HR := Lib.hid (And.intro hR9 hc9)
          have hres := hR9.res
          clear hR9 hc9
          have hresc0 := hres.cell 0 _ rfl
          have hresf0 := hres.frozen 0
          have hresc1 := hres.cell 1 _ rfl
          have hresf1 := hres.frozen 1
          have hresc2 := hres.cell 2 _ rfl
          have hresf2 := hres.frozen 2
          clear hres
          have hq6c0 := hq6.cell 0 _ rfl
          have hq6f0 := hq6.frozen 0
          have hq6c1 := hq6.cell 1 _ rfl
          have hq6f1 := hq6.frozen 1
          have hq6c2 := hq6.cell 2 _ rfl
          have hq6f2 := hq6.frozen 2
          go_wp2
          obtain ⟨hR9, hc9⟩ := HR.out
          have hq := ((hR9.res.setI 0 (.string o5)).setI 1 (.string t5)).setI 2 (.slice a5 nn5 c5)
          have hx := hq.cell 0 _ rfl
          have hy := hq.cell 1 _ rfl
          have hz := hq.cell 2 _ rfl
          refine bodyPost_ret (v := .agg #[.string o5, .string t5, .slice a5 nn5 c5]) (by simp [results, Tryz.results74, go_sem, hx, hy, hz]) rfl ?_
          have hS9 := hR9.fin [.string o5, .string t5, .slice a5 nn5 c5]
          have hP9 := hR9.prc hc9 [.string o5, .string t5, .slice a5 nn5 c5]
          show XP g (.slice a0 n0 c0) k _ w _ (setAll (wr.drewN nd) w.heap.size 0 [.string o5, .string t5, .slice a5 nn5 c5])
          rw [hRx]
          have hkx : k + (k' - k) = k' := by omega
          exact ⟨hS9, by show PrC _ g _ ((k + (k' - k) : Nat)) 0; rw [hkx]; exact hP9, _, _, _, _, _, rfl, fun _ => ExpIn.move (P := fun b => w.heap.size ≤ b ∧ b ≠ w.heap.size ∧ b ≠ w4.heap.size) (by rw [setAll_size]; exact Nat.le_refl _) (fun b hb _ => setAll_other _ _ 0 _ b hb.2.1) (fun b hb _ => hb.1) x _ (ExpIn.below (below_draws _ _ _) x _ HX.out)⟩
        | some op =>
          have hrn : ((rkN (l.drop k') : Int) == (n : Int)) = true := by
            rw [beq_iff_eq]
            exact (rkN_iff hn1 (by omega)).2 ⟨op, hil⟩
          have hrk := rank_ok wr g _ l k' h5
          have hk1 : k' < l.length := by have := isL_some hil; rw [List.length_drop] at this; omega
          obtain ⟨tk, tq, htk, hop⟩ := isL_text hil
          have htk2 : l[k'] = tk := by
            rw [List.drop_eq_getElem_cons hk1] at htk
            exact (List.cons.inj htk).1
          obtain ⟨tb, tof, hte, htb, c0', c1', c2'⟩ := ToksAt.get h5.toks hk1
          rw [htk2, hop] at c1'
          subst hte
          cases j with
          | zero => rw [hRe] at hne; exact absurd rfl hne
          | succ j =>
          rw [parX, hil] at hRe
          simp only at hRe
          rw [List.drop_drop] at hRe
          have hnx : (andX (upX 1 (parX j (.term (n + 1)) (l.drop (k' + 1)) d)) fun b k2 => upX k2 (parX j (.tloop n (.mk op oNo [x, b])) ((l.drop k').drop k2) d)).2.2 ≠ -1 := by
            rw [hRe] at hne; exact hne
          have hr2 : (parX j (.term (n + 1)) (l.drop (k' + 1)) d).2.2 ≠ -1 := andX_ne (g := upX 1 (parX j (.term (n + 1)) (l.drop (k' + 1)) d)) hnx
          clear hnx
          have hle2 : (parX j (.term (n + 1)) (l.drop (k' + 1)) d).2.1 ≤ (l.drop (k' + 1)).length := (parX_le j (.term (n + 1)) (l.drop (k' + 1)) d (by simp only [Nt.okX]; omega) hr2).1
          rw [List.length_drop] at hle2
          have hTT := fun w3 h3 hb3 => hTm j (by omega) w3 g (.slice (some ⟨tb, tof, none⟩) n0 c0) l (k' + 1) d (n + 1) bp bd bt h3 hb3 hd (by omega) (by omega) hr2
          rw [show ((n + 1 : Nat) : Int) = (n : Int) + 1 by omega] at hTT
          generalize parX j (.term (n + 1)) (l.drop (k' + 1)) d = r2 at *
          obtain ⟨x2, n2, e2⟩ := r2
          have HRe := Lib.hid hRe
          clear hRe
          generalize rkN (l.drop k') = rk at *
          go_wp2_with fail
          refine hrk.mono ?_
          rintro _ _ ⟨rfl, nd, rfl⟩
          have hgl := h5.box.lt
          have HPO := Lib.hid h5.box.pos
          have hbox := h5.box
          have hll : ((n0 : Nat) : Int) = (l.length : Int) := by
            obtain ⟨a9, c9, he9, -⟩ := h5.toks.len
            cases he9; rfl
          have hnp := hB5.np
          have hnd := hB5.nd
          have hnt := hB5.nt
          have hqg := hR5.qg
          have hq0 := hR5.res.lt
          have hboxc0 := hbox.cell 0 _ rfl
          have hboxf0 := hbox.frozen 0
          have hboxc1 := hbox.cell 1 _ rfl
          have hboxf1 := hbox.frozen 1
          have hboxc2 := hbox.cell 2 _ rfl
          have hboxf2 := hbox.frozen 2
          have HX := Lib.hid hX
          clear hX
          go_wp2_with fail
          go_quiet (fail)
          go_wp2_with fail
          have hs6 : Save g wr ((wr.drewN (nd + nq)).setCell ⟨g, 1, none⟩ (.int .i64 ((k' : Int) + 1))) := ((Save.refl g wr).drewN _).set 1 _
          have hc6 : PrC ((wr.drewN (nd + nq)).setCell ⟨g, 1, none⟩ (.int .i64 ((k' : Int) + 1))) g (.slice (some ⟨tb, tof, none⟩) n0 c0) ((k' + 1 : Nat)) 0 := (h5.box.drewN (nd + nq)).setI 1 (.int .i64 ((k' : Int) + 1))
          generalize (wr.drewN (nd + nq)).setCell ⟨g, 1, none⟩ (.int .i64 ((k' : Int) + 1)) = w6 at hs6 hc6 ⊢
          refine (hTT w6 (h5.go hs6 hc6 hk1) (hB5.save hs6)).mono ?_
          rintro _ w7 ⟨hs7, hc7, o2, t2, a2, m2, c2, rfl, hX2⟩
          simp only at hc7 hX2
          have hs57 := hs6.trans hs7
          have hR7 := hR5.step hs57
          have hB7 := hB5.save hs57
          have hq7 := hs57.cells hq5 (by omega)
          have hz6 := hs6.size
          have hz7 := hs7.size
          have hP7 : e2 = 0 → Prs w7 g (.slice (some ⟨tb, tof, none⟩) n0 c0) l (k' + 1 + n2) := fun he => by
            subst he; exact h5.go hs57 hc7 (by omega)
          have hX7 : ExpIn (fun b => w.heap.size ≤ b ∧ b ≠ w.heap.size ∧ b ≠ w4.heap.size) w7 x (expV o5 t5 (.slice a5 nn5 c5)) :=
            ExpIn.move hs57.size (fun b hb hlt => hs57.2 b hlt (by omega)) (fun b hb _ => hb) x _ HX.out
          have H7 := Lib.hid (And.intro hR7 (And.intro hB7 (And.intro hc7 (And.intro hP7 (And.intro hX7 hX2)))))
          clear hR5 hB5 hs57 hs6 hs7 hc6 hc7 hP7 hX7 hX2 HX hbox hboxc0 hboxc1 hboxc2 hboxf0 hboxf1 hboxf2 hq5 hTT hrk c0' c1' c2' hbp hbd hbt hR7 hB7 h5
          have hz2 : w4.heap.size < w7.heap.size := by omega
          have hq7c0 := hq7.cell 0 _ rfl
          have hq7f0 := hq7.frozen 0
          have hq7c1 := hq7.cell 1 _ rfl
          have hq7f1 := hq7.frozen 1
          have hq7c2 := hq7.cell 2 _ rfl
          have hq7f2 := hq7.frozen 2
          go_wp2_with fail
          obtain ⟨hR7, hB7, hc7, hP7, hX7, hX2⟩ := H7.out
          obtain ⟨h, hB⟩ := H0.out
          have hSv := (hR7.save.setAllNew (q := w4.heap.size) (by omega) [.string op, .string ⟨#[]⟩, .slice (some ⟨w7.heap.size + 1, 0, none⟩) 2 2])
          have hc8 : PrC (setAll w7 w4.heap.size 0 [.string op, .string ⟨#[]⟩, .slice (some ⟨w7.heap.size + 1, 0, none⟩) 2 2]) g _ _ _ := hc7.setAllOther (by omega)
          have hq8 : Cells (setAll w7 w4.heap.size 0 [.string op, .string ⟨#[]⟩, .slice (some ⟨w7.heap.size + 1, 0, none⟩) 2 2]) w4.heap.size _ _ := hq7.put [.string op, .string ⟨#[]⟩, .slice (some ⟨w7.heap.size + 1, 0, none⟩) 2 2] 0
          have hr8 : Cells (setAll w7 w4.heap.size 0 [.string op, .string ⟨#[]⟩, .slice (some ⟨w7.heap.size + 1, 0, none⟩) 2 2]) w.heap.size _ _ := hR7.res.setAllOther (by omega)
          have hsz8 := setAll_size w4.heap.size [.string op, .string ⟨#[]⟩, .slice (some ⟨w7.heap.size + 1, 0, none⟩) 2 2] 0 w7
          have hot8 := fun b (hb : b ≠ w4.heap.size) => setAll_other w4.heap.size [.string op, .string ⟨#[]⟩, .slice (some ⟨w7.heap.size + 1, 0, none⟩) 2 2] 0 w7 b hb
          show TL w w.heap.size w4.heap.size g bp bd bt _ l k d n m R (((setAll w7 w4.heap.size 0 [.string op, .string ⟨#[]⟩, .slice (some ⟨w7.heap.size + 1, 0, none⟩) 2 2]).alloc (.cells #[.string o2, .string t2, .slice a2 m2 c2] 34)).alloc (.cells #[.string o5, .string t5, .slice a5 nn5 c5, .string o2, .string t2, .slice a2 m2 c2] 34)) ∧
            l.length + 1 - posOf (((setAll w7 w4.heap.size 0 [.string op, .string ⟨#[]⟩, .slice (some ⟨w7.heap.size + 1, 0, none⟩) 2 2]).alloc (.cells #[.string o2, .string t2, .slice a2 m2 c2] 34)).alloc (.cells #[.string o5, .string t5, .slice a5 nn5 c5, .string o2, .string t2, .slice a2 m2 c2] 34)) g < l.length + 1 - posOf wr g
          generalize setAll w7 w4.heap.size 0 [.string op, .string ⟨#[]⟩, .slice (some ⟨w7.heap.size + 1, 0, none⟩) 2 2] = w8 at hSv hc8 hq8 hr8 hsz8 hot8 ⊢
          have hSv9 := (hSv.alloc (.cells #[.string o2, .string t2, .slice a2 m2 c2] 34)).alloc (.cells #[.string o5, .string t5, .slice a5 nn5 c5, .string o2, .string t2, .slice a2 m2 c2] 34)
          have hc9 := (hc8.alloc (.cells #[.string o2, .string t2, .slice a2 m2 c2] 34)).alloc (.cells #[.string o5, .string t5, .slice a5 nn5 c5, .string o2, .string t2, .slice a2 m2 c2] 34)
          have hq9 := (hq8.alloc (.cells #[.string o2, .string t2, .slice a2 m2 c2] 34)).alloc (.cells #[.string o5, .string t5, .slice a5 nn5 c5, .string o2, .string t2, .slice a2 m2 c2] 34)
          have hr9 := (hr8.alloc (.cells #[.string o2, .string t2, .slice a2 m2 c2] 34)).alloc (.cells #[.string o5, .string t5, .slice a5 nn5 c5, .string o2, .string t2, .slice a2 m2 c2] 34)
          have hk9 := Cells.new (w8.alloc (.cells #[.string o2, .string t2, .slice a2 m2 c2] 34)) #[.string o5, .string t5, .slice a5 nn5 c5, .string o2, .string t2, .slice a2 m2 c2] 34
          rw [World.size_alloc, hsz8] at hk9
          have hot9 : ∀ b, b ≠ w4.heap.size → b < w7.heap.size → ((w8.alloc (.cells #[.string o2, .string t2, .slice a2 m2 c2] 34)).alloc (.cells #[.string o5, .string t5, .slice a5 nn5 c5, .string o2, .string t2, .slice a2 m2 c2] 34)).heap[b]? = w7.heap[b]? := fun b hb hlt => by
            rw [Below.heap_alloc _ _ _ (by rw [World.size_alloc]; omega), Below.heap_alloc _ _ _ (by omega), hot8 b hb]
          have hs9 : ((w8.alloc (.cells #[.string o2, .string t2, .slice a2 m2 c2] 34)).alloc (.cells #[.string o5, .string t5, .slice a5 nn5 c5, .string o2, .string t2, .slice a2 m2 c2] 34)).heap.size = w7.heap.size + 2 := by
            rw [World.size_alloc, World.size_alloc, hsz8]
          generalize (w8.alloc (.cells #[.string o2, .string t2, .slice a2 m2 c2] 34)).alloc (.cells #[.string o5, .string t5, .slice a5 nn5 c5, .string o2, .string t2, .slice a2 m2 c2] 34) = w9 at hSv9 hc9 hq9 hr9 hk9 hot9 hs9 ⊢
          have hHRe := HRe.out
          constructor
          · refine ⟨⟨hSv9, hr9, hqg, Nat.le_refl _⟩, hB.save hSv9, op, ⟨#[]⟩, _, _, _, hq9, ?_⟩
            by_cases he : e2 = 0
            · subst he
              left
              refine ⟨j, .mk op oNo [x, x2], k' + 1 + n2, by omega, h.go hSv9 hc9 (by omega), by omega, ?_, ?_⟩
              · rw [hHRe, andX_ok (by rfl)]
                simp only [upX_upX, upX, List.drop_drop]
                rw [show k' + (1 + n2) = k' + 1 + n2 by omega]
                exact Prod.ext rfl (Prod.ext (by simp only; omega) rfl)
              · refine node_at (P := fun b => w.heap.size ≤ b ∧ b ≠ w.heap.size ∧ b ≠ w4.heap.size) [(x, expV o5 t5 (.slice a5 nn5 c5)), (x2, expV o2 t2 (.slice a2 m2 c2))] hk9 ⟨by omega, by omega, by omega⟩ (fun s hs => ?_) (by unfold maxLen; simp)
                simp at hs
                rcases hs with rfl | rfl
                · exact ExpIn.move (by omega) (fun b hb hlt => hot9 b hb.2.2 hlt) (fun b hb _ => hb) x _ hX7
                · exact ExpIn.move (by omega) (fun b hb hlt => hot9 b (by omega) hlt) (fun b hb _ => ⟨by omega, by omega, by omega⟩) x2 _ (hX2 rfl)
            · right
              refine ⟨k' + 1 + n2, e2, hc9, he, by omega, ?_⟩
              rw [hHRe, andX_bad (by exact he)]
              simp only [upX]
              rw [show k' - k + (1 + n2) = k' + 1 + n2 - k by omega]
          · rw [PrC.pos hc9, HPO.out]
            omega
      · have hrk := rank_no wr g _ _ e hc5 he ⟨_, _, _, rfl⟩
        have hn0 : ((0 : Int) == (n : Int)) = false := by rw [beq_eq_false_iff_ne]; omega
        go_wp2_with fail
        refine hrk.mono ?_
        rintro _ _ ⟨rfl, nd, rfl⟩
        have hR9 := hR5.step ((Save.refl g wr).drewN nd)
        have hc9 := hc5.drewN nd
        have hq6 := hq5.drewN nd
        clear hR5 hB5 hc5 hbp hbd hbt hq5
        have hrl := hR9.res.lt
        have HR := Lib.hid (And.intro hR9 hc9)
        have hres := hR9.res
        clear hR9 hc9
        have hresc0 := hres.cell 0 _ rfl
        have hresf0 := hres.frozen 0
        have hresc1 := hres.cell 1 _ rfl
        have hresf1 := hres.frozen 1
        have hresc2 := hres.cell 2 _ rfl
        have hresf2 := hres.frozen 2
        clear hres
        have hq6c0 := hq6.cell 0 _ rfl
        have hq6f0 := hq6.frozen 0
        have hq6c1 := hq6.cell 1 _ rfl
        have hq6f1 := hq6.frozen 1
        have hq6c2 := hq6.cell 2 _ rfl
        have hq6f2 := hq6.frozen 2
        go_wp2
        obtain ⟨hR9, hc9⟩ := HR.out
        have hq := ((hR9.res.setI 0 (.string o5)).setI 1 (.string t5)).setI 2 (.slice a5 nn5 c5)
        have hx := hq.cell 0 _ rfl
        have hy := hq.cell 1 _ rfl
        have hz := hq.cell 2 _ rfl
        refine bodyPost_ret (v := .agg #[.string o5, .string t5, .slice a5 nn5 c5]) (by simp [results, Tryz.results74, go_sem, hx, hy, hz]) rfl ?_
        have hS9 := hR9.fin [.string o5, .string t5, .slice a5 nn5 c5]
        have hP9 := hR9.prc hc9 [.string o5, .string t5, .slice a5 nn5 c5]
        show XP g (.slice a0 n0 c0) k _ w _ (setAll (wr.drewN nd) w.heap.size 0 [.string o5, .string t5, .slice a5 nn5 c5])
        rw [hRe]
        have hkx : k + (k' - k) = k' := by omega
        exact ⟨hS9, by show PrC _ g _ ((k + (k' - k) : Nat)) e; rw [hkx]; exact hP9, _, _, _, _, _, rfl, fun h => absurd h he⟩
end Go.Proofs.YthmmgpbojbjihaaGreatDoor

/- The parser of expressions: a choice (layer 12). -/
namespace Go.Proofs.YthmmgpbojbjihaaGreatDoor
open Go.RowKit Go.Tab

/-- What a choice holds between its calls: its result's box, its closure's boxes, the box of the first part. -/
structure Ch (w0 : World) (q q6 g bp bd bt d : Nat) (cs : Array Value) (w : World) : Prop where
  rs : Rs w0 q g w
  tb : TBox w g bp bd bt d
  first : Cells w q6 cs 34
  q6g : q6 ≠ g
  q60 : w0.heap.size ≤ q6
  q6q : q6 ≠ q
theorem Ch.step {w0 w w' : World} {q q6 g bp bd bt d : Nat} {cs : Array Value} (h : Ch w0 q q6 g bp bd bt d cs w) (hs : Save g w w') : Ch w0 q q6 g bp bd bt d cs w' :=
  ⟨h.rs.step hs, h.tb.save hs, hs.cells h.first h.q6g, h.q6g, h.q60, h.q6q⟩
set_option maxHeartbeats 4000000 in
set_option maxRecDepth 100000 in
theorem choice_step (m : Nat) (hT : TermC m) (hC : ChoiceC m) : ChoiceC (m + 1) := by
  intro w g lv l k d h hd hne
  obtain ⟨a0, n0, c0, rfl⟩ := h.sl
  have hkl := h.le
  have hsm := h.small
  have hgw := h.box.lt
  obtain ⟨R, hRR⟩ : ∃ R, R = parX (m + 1) .choice (l.drop k) d := ⟨_, rfl⟩
  rw [← hRR] at hne ⊢
  rw [parX] at hRR
  have hr1 : (parX m (.term 1) (l.drop k) d).2.2 ≠ -1 := by rw [hRR] at hne; exact andX_ne hne
  have hle1 : (parX m (.term 1) (l.drop k) d).2.1 ≤ (l.drop k).length := (parX_le m (.term 1) (l.drop k) d (by simp only [Nt.okX]; omega) hr1).1
  rw [List.length_drop] at hle1
  have hTT := fun w3 h3 bp bd bt hb3 => hT w3 g (.slice a0 n0 c0) l k d 1 bp bd bt h3 hb3 hd (by omega) (by omega) hr1
  rw [show ((1 : Nat) : Int) = 1 from rfl] at hTT
  generalize parX m (.term 1) (l.drop k) d = r1 at *
  obtain ⟨x1, n1, e1⟩ := r1
  simp only at hle1 hr1
  have HRR := Lib.hid hRR
  have HNE := Lib.hid hne
  clear hRR hne hr1
  go_enter Tryz.func55, Tryz.ntmps55
  go_wp2_with fail
  have hbA : Below w.heap.size w ((((w.alloc (.cells #[.pointer (some ⟨g, 0, none⟩)] 96)).alloc (.cells #[.int .i64 (d : Nat)] 3)).alloc (.cells zeroC 34)).alloc (.cells #[.func (.func 74) #[] #[.pointer (some ⟨w.heap.size, 0, none⟩), .pointer (some ⟨w.heap.size + 1, 0, none⟩), .pointer (some ⟨w.heap.size + 1 + 1 + 1, 0, none⟩)]] 99)) :=
    ((((Below.refl _ w).alloc (Nat.le_refl _) _).alloc (by simp) _).alloc (by simp only [World.size_alloc]; omega) _).alloc (by simp only [World.size_alloc]; omega) _
  have hpA := (((Cells.new w #[.pointer (some ⟨g, 0, none⟩)] 96).alloc (.cells #[.int .i64 (d : Nat)] 3)).alloc (.cells zeroC 34)).alloc (.cells #[.func (.func 74) #[] #[.pointer (some ⟨w.heap.size, 0, none⟩), .pointer (some ⟨w.heap.size + 1, 0, none⟩), .pointer (some ⟨w.heap.size + 1 + 1 + 1, 0, none⟩)]] 99)
  have hdA := ((Cells.new (w.alloc (.cells #[.pointer (some ⟨g, 0, none⟩)] 96)) #[.int .i64 (d : Nat)] 3).alloc (.cells zeroC 34)).alloc (.cells #[.func (.func 74) #[] #[.pointer (some ⟨w.heap.size, 0, none⟩), .pointer (some ⟨w.heap.size + 1, 0, none⟩), .pointer (some ⟨w.heap.size + 1 + 1 + 1, 0, none⟩)]] 99)
  have hqA := (Cells.new ((w.alloc (.cells #[.pointer (some ⟨g, 0, none⟩)] 96)).alloc (.cells #[.int .i64 (d : Nat)] 3)) zeroC 34).alloc (.cells #[.func (.func 74) #[] #[.pointer (some ⟨w.heap.size, 0, none⟩), .pointer (some ⟨w.heap.size + 1, 0, none⟩), .pointer (some ⟨w.heap.size + 1 + 1 + 1, 0, none⟩)]] 99)
  have htA := Cells.new (((w.alloc (.cells #[.pointer (some ⟨g, 0, none⟩)] 96)).alloc (.cells #[.int .i64 (d : Nat)] 3)).alloc (.cells zeroC 34)) #[.func (.func 74) #[] #[.pointer (some ⟨w.heap.size, 0, none⟩), .pointer (some ⟨w.heap.size + 1, 0, none⟩), .pointer (some ⟨w.heap.size + 1 + 1 + 1, 0, none⟩)]] 99
  simp only [World.size_alloc] at hdA hqA htA
  have hsA : ((((w.alloc (.cells #[.pointer (some ⟨g, 0, none⟩)] 96)).alloc (.cells #[.int .i64 (d : Nat)] 3)).alloc (.cells zeroC 34)).alloc (.cells #[.func (.func 74) #[] #[.pointer (some ⟨w.heap.size, 0, none⟩), .pointer (some ⟨w.heap.size + 1, 0, none⟩), .pointer (some ⟨w.heap.size + 1 + 1 + 1, 0, none⟩)]] 99)).heap.size = w.heap.size + 4 := by simp only [World.size_alloc]
  generalize ((((w.alloc (.cells #[.pointer (some ⟨g, 0, none⟩)] 96)).alloc (.cells #[.int .i64 (d : Nat)] 3)).alloc (.cells zeroC 34)).alloc (.cells #[.func (.func 74) #[] #[.pointer (some ⟨w.heap.size, 0, none⟩), .pointer (some ⟨w.heap.size + 1, 0, none⟩), .pointer (some ⟨w.heap.size + 1 + 1 + 1, 0, none⟩)]] 99)) = wA at hbA hpA hdA hqA htA hsA ⊢
  have hPA := h.step hbA
  have hTA : TBox wA g w.heap.size (w.heap.size + 1) (w.heap.size + 1 + 1 + 1) d := ⟨hpA, hdA, htA, by omega, by omega, by omega⟩
  have hRA : Rs w (w.heap.size + 1 + 1) g wA := ⟨Save.of hbA, hqA, by omega, by omega⟩
  clear hbA hpA hdA hqA htA
  refine (hTT wA hPA _ _ _ hTA).mono ?_
  rintro _ w2 ⟨hs2, hc2, o1, t1, a1, m1, c1, rfl, hX1⟩
  simp only at hc2 hX1
  have hz2 := hs2.size
  have hx2 : Save g w2 (w2.alloc (.cells #[.string o1, .string t1, .slice a1 m1 c1] 34)) := (Save.refl g w2).alloc _
  have hC3 : Ch w (w.heap.size + 1 + 1) w2.heap.size g w.heap.size (w.heap.size + 1) (w.heap.size + 1 + 1 + 1) d #[.string o1, .string t1, .slice a1 m1 c1] (w2.alloc (.cells #[.string o1, .string t1, .slice a1 m1 c1] 34)) :=
    ⟨(hRA.step hs2).step hx2, (hTA.save hs2).save hx2, Cells.new _ _ _, by omega, by omega, by omega⟩
  have hc3 := hc2.alloc (.cells #[.string o1, .string t1, .slice a1 m1 c1] 34)
  have hs3 := hs2.trans hx2
  have hX3 : e1 = 0 → ExpIn (fun b => w.heap.size ≤ b ∧ b ≠ w.heap.size + 1 + 1 ∧ b ≠ w2.heap.size) (w2.alloc (.cells #[.string o1, .string t1, .slice a1 m1 c1] 34)) x1 (expV o1 t1 (.slice a1 m1 c1)) := fun he =>
    ExpIn.move hx2.size (fun b hb hlt => hx2.2 b hlt (by omega)) (fun b hb hlt => ⟨by omega, by omega, by omega⟩) x1 _ (hX1 he)
  have hz3 : w2.heap.size < (w2.alloc (.cells #[.string o1, .string t1, .slice a1 m1 c1] 34)).heap.size := by simp
  have hT2 := hTA.save hs2
  have hbp := hT2.p.cell 0 _ rfl
  have hpl := hT2.p.lt
  have H3 := Lib.hid hz3
  have HC3 := Lib.hid (And.intro hC3 (And.intro hc3 (And.intro hs3 (And.intro hX3 hPA))))
  clear hx2 hc2 hs2 hX1 hRA hTA hTT hT2 hC3 hc3 hs3 hX3 hPA hz3
  go_wp2_with fail
  obtain ⟨hC3, hc3, hs3, hX3, hPA⟩ := HC3.out
  have hz3 := H3.out
  clear HC3 H3 hbp hpl
  generalize w2.alloc (.cells #[.string o1, .string t1, .slice a1 m1 c1] 34) = w3 at hC3 hc3 hs3 hX3 hz3 ⊢
  by_cases he1 : e1 = 0
  · subst he1
    have hP3 := hPA.go hs3 hc3 (by omega)
    clear hPA hs3
    have hX3 := hX3 rfl
    have hR2 := HRR.out
    rw [andX_ok (by rfl)] at hR2
    simp only [List.drop_drop] at hR2
    clear HRR
    by_cases s1 : isS (l.drop (k + n1)) sQ = false
    · rw [if_pos s1] at hR2
      have hI := is_ok _ g _ l (k + n1) sQ hP3
      rw [s1] at hI
      have HX := Lib.hid hX3
      have HR2 := Lib.hid hR2
      clear hX3 hR2 hP3
      refine hI.mono ?_
      rintro _ w4 ⟨rfl, hb4⟩
      have hC9 := hC3.step (Save.of hb4)
      have hc9 := hc3.below hb4 hc3.lt
      have HX := Lib.hid (ExpIn.below hb4 x1 _ HX.out)
      clear hC3 hc3 hb4 hI
      have hbp := hC9.tb.p.cell 0 _ rfl
      have hbd := hC9.tb.d.cell 0 _ rfl
      have hpl := hC9.tb.p.lt
      have hdl := hC9.tb.d.lt
      have hres := hC9.rs.res
      have hrl := hres.lt
      have hfi := hC9.first
      have hfl := hfi.lt
      have hgl := hc9.lt
      have HR := Lib.hid (And.intro hC9 hc9)
      have hresc0 := hres.cell 0 _ rfl
      have hresf0 := hres.frozen 0
      have hresc1 := hres.cell 1 _ rfl
      have hresf1 := hres.frozen 1
      have hresc2 := hres.cell 2 _ rfl
      have hresf2 := hres.frozen 2
      have hfic0 := hfi.cell 0 _ rfl
      have hfif0 := hfi.frozen 0
      have hfic1 := hfi.cell 1 _ rfl
      have hfif1 := hfi.frozen 1
      have hfic2 := hfi.cell 2 _ rfl
      have hfif2 := hfi.frozen 2
      have hc9c0 := hc9.cell 0 _ rfl
      have hc9f0 := hc9.frozen 0
      have hc9c1 := hc9.cell 1 _ rfl
      have hc9f1 := hc9.frozen 1
      have hc9c2 := hc9.cell 2 _ rfl
      have hc9f2 := hc9.frozen 2
      clear hC9 hc9 hres hfi
      go_wp2
      obtain ⟨hC9, hc9⟩ := HR.out
      have hR9 := hC9.rs
      have hq := ((hR9.res.setI 0 (.string o1)).setI 1 (.string t1)).setI 2 (.slice a1 m1 c1)
      have hx := hq.cell 0 _ rfl
      have hy := hq.cell 1 _ rfl
      have hz := hq.cell 2 _ rfl
      refine bodyPost_ret (v := .agg #[.string o1, .string t1, .slice a1 m1 c1]) (by simp [results, Tryz.results55, go_sem, hx, hy, hz]) rfl ?_
      have hS9 := hR9.fin [.string o1, .string t1, .slice a1 m1 c1]
      have hP9 := hR9.prc hc9 [.string o1, .string t1, .slice a1 m1 c1]
      show XP g (.slice a0 n0 c0) k _ w _ (setAll w4 (w.heap.size + 1 + 1) 0 [.string o1, .string t1, .slice a1 m1 c1])
      rw [HR2.out]
      exact ⟨hS9, hP9, _, _, _, _, _, rfl, fun _ => ExpIn.move (P := fun b => w.heap.size ≤ b ∧ b ≠ w.heap.size + 1 + 1 ∧ b ≠ w2.heap.size) (by rw [setAll_size]; exact Nat.le_refl _) (fun b hb _ => setAll_other _ _ 0 _ b hb.2.1) (fun b hb _ => hb.1) x1 _ HX.out⟩
    · have s1t : isS (l.drop (k + n1)) sQ = true := by simpa using s1
      rw [if_neg s1] at hR2
      have hk1 : k + n1 + 1 ≤ l.length := by have := isS_some s1t; rw [List.length_drop] at this; omega
      have hI := is_ok _ g _ l (k + n1) sQ hP3
      rw [s1t] at hI
      have HP3 := Lib.hid hP3
      clear hP3
      have HX := Lib.hid hX3
      clear hX3
      by_cases hd6 : 64 ≤ d
      · rw [if_pos hd6] at hR2
        have HR2 := Lib.hid hR2
        clear hR2
        refine hI.mono ?_
        rintro _ w4 ⟨rfl, hb4⟩
        have hC9 := hC3.step (Save.of hb4)
        have hc9 := hc3.below hb4 hc3.lt
        clear hC3 hc3 hb4 hI HX HP3
        have hN := into_no w4 g _ (k + n1) d hc9 hd6
        have hbp := hC9.tb.p.cell 0 _ rfl
        have hbd := hC9.tb.d.cell 0 _ rfl
        have hpl := hC9.tb.p.lt
        have hdl := hC9.tb.d.lt
        have hres := hC9.rs.res
        have hrl := hres.lt
        have hfi := hC9.first
        have hfl := hfi.lt
        have hgl := hc9.lt
        have HR := Lib.hid (And.intro hC9 hc9)
        have hresc0 := hres.cell 0 _ rfl
        have hresf0 := hres.frozen 0
        have hresc1 := hres.cell 1 _ rfl
        have hresf1 := hres.frozen 1
        have hresc2 := hres.cell 2 _ rfl
        have hresf2 := hres.frozen 2
        have hfic0 := hfi.cell 0 _ rfl
        have hfif0 := hfi.frozen 0
        have hfic1 := hfi.cell 1 _ rfl
        have hfif1 := hfi.frozen 1
        have hfic2 := hfi.cell 2 _ rfl
        have hfif2 := hfi.frozen 2
        have hc9c0 := hc9.cell 0 _ rfl
        have hc9f0 := hc9.frozen 0
        have hc9c1 := hc9.cell 1 _ rfl
        have hc9f1 := hc9.frozen 1
        have hc9c2 := hc9.cell 2 _ rfl
        have hc9f2 := hc9.frozen 2
        clear hC9 hc9 hres hfi
        go_wp2_with fail
        refine hN.mono ?_
        rintro _ w5 ⟨rfl, hc5, hs5⟩
        obtain ⟨hC9, hc9⟩ := HR.out
        clear HR hbp hbd hpl hdl hrl hfl hgl hresc0 hresc1 hresc2 hresf0 hresf1 hresf2 hfic0 hfic1 hfic2 hfif0 hfif1 hfif2 hc9c0 hc9c1 hc9c2 hc9f0 hc9f1 hc9f2
        clear hc9
        replace hC9 := hC9.step hs5
        have hc9 := hc5
        clear hs5 hc5 hN
        have hbp := hC9.tb.p.cell 0 _ rfl
        have hbd := hC9.tb.d.cell 0 _ rfl
        have hpl := hC9.tb.p.lt
        have hdl := hC9.tb.d.lt
        have hres := hC9.rs.res
        have hrl := hres.lt
        have hfi := hC9.first
        have hfl := hfi.lt
        have hgl := hc9.lt
        have HR := Lib.hid (And.intro hC9 hc9)
        have hresc0 := hres.cell 0 _ rfl
        have hresf0 := hres.frozen 0
        have hresc1 := hres.cell 1 _ rfl
        have hresf1 := hres.frozen 1
        have hresc2 := hres.cell 2 _ rfl
        have hresf2 := hres.frozen 2
        have hfic0 := hfi.cell 0 _ rfl
        have hfif0 := hfi.frozen 0
        have hfic1 := hfi.cell 1 _ rfl
        have hfif1 := hfi.frozen 1
        have hfic2 := hfi.cell 2 _ rfl
        have hfif2 := hfi.frozen 2
        have hc9c0 := hc9.cell 0 _ rfl
        have hc9f0 := hc9.frozen 0
        have hc9c1 := hc9.cell 1 _ rfl
        have hc9f1 := hc9.frozen 1
        have hc9c2 := hc9.cell 2 _ rfl
        have hc9f2 := hc9.frozen 2
        clear hC9 hc9 hres hfi
        go_wp2
        obtain ⟨hC9, hc9⟩ := HR.out
        have hR9 := hC9.rs
        have hq := ((hR9.res.setI 0 (.string o1)).setI 1 (.string t1)).setI 2 (.slice a1 m1 c1)
        have hx := hq.cell 0 _ rfl
        have hy := hq.cell 1 _ rfl
        have hz := hq.cell 2 _ rfl
        refine bodyPost_ret (v := .agg #[.string o1, .string t1, .slice a1 m1 c1]) (by simp [results, Tryz.results55, go_sem, hx, hy, hz]) rfl ?_
        have hS9 := hR9.fin [.string o1, .string t1, .slice a1 m1 c1]
        have hP9 := hR9.prc hc9 [.string o1, .string t1, .slice a1 m1 c1]
        show XP g (.slice a0 n0 c0) k _ w _ (setAll w5 (w.heap.size + 1 + 1) 0 [.string o1, .string t1, .slice a1 m1 c1])
        rw [HR2.out]
        exact ⟨hS9, hP9, _, _, _, _, _, rfl, fun h => by cases h⟩
      · rw [if_neg hd6] at hR2
        have hne := HNE.out
        rw [hR2] at hne
        have hr2 : (parX m .choice (l.drop (k + (n1 + 1))) (d + 1)).2.2 ≠ -1 := andX_ne (g := upX (n1 + 1) (parX m .choice (l.drop (k + (n1 + 1))) (d + 1))) hne
        have hle2 := (parX_le m .choice (l.drop (k + (n1 + 1))) (d + 1) (by simp only [Nt.okX]) hr2).1
        rw [List.length_drop] at hle2
        have hCC := fun w3 h3 => hC w3 g (.slice a0 n0 c0) l (k + (n1 + 1)) (d + 1) h3 (by omega) hr2
        rw [show ((d + 1 : Nat) : Int) = (d : Int) + 1 by omega] at hCC
        clear hne
        generalize parX m .choice (l.drop (k + (n1 + 1))) (d + 1) = r2 at *
        obtain ⟨x2, n2, e2⟩ := r2
        simp only at hle2 hr2
        have HR2 := Lib.hid hR2
        clear hR2 hr2
        refine hI.mono ?_
        rintro _ w4 ⟨rfl, hb4⟩
        have hC9 := hC3.step (Save.of hb4)
        have hc9 := hc3.below hb4 hc3.lt
        have HP4 := Lib.hid (HP3.out.step hb4)
        have HX4 := Lib.hid (ExpIn.below hb4 x1 _ HX.out)
        clear hC3 hc3 hb4 hI HX HP3
        have hN := into_yes w4 g _ (k + n1) d hc9 (by omega) (by omega)
        have hbp := hC9.tb.p.cell 0 _ rfl
        have hbd := hC9.tb.d.cell 0 _ rfl
        have hpl := hC9.tb.p.lt
        have hdl := hC9.tb.d.lt
        have hres := hC9.rs.res
        have hrl := hres.lt
        have hfi := hC9.first
        have hfl := hfi.lt
        have hgl := hc9.lt
        have HR := Lib.hid (And.intro hC9 hc9)
        have hresc0 := hres.cell 0 _ rfl
        have hresf0 := hres.frozen 0
        have hresc1 := hres.cell 1 _ rfl
        have hresf1 := hres.frozen 1
        have hresc2 := hres.cell 2 _ rfl
        have hresf2 := hres.frozen 2
        have hfic0 := hfi.cell 0 _ rfl
        have hfif0 := hfi.frozen 0
        have hfic1 := hfi.cell 1 _ rfl
        have hfif1 := hfi.frozen 1
        have hfic2 := hfi.cell 2 _ rfl
        have hfif2 := hfi.frozen 2
        have hc9c0 := hc9.cell 0 _ rfl
        have hc9f0 := hc9.frozen 0
        have hc9c1 := hc9.cell 1 _ rfl
        have hc9f1 := hc9.frozen 1
        have hc9c2 := hc9.cell 2 _ rfl
        have hc9f2 := hc9.frozen 2
        clear hC9 hc9 hres hfi
        go_wp2_with fail
        refine hN.mono ?_
        rintro _ w5 ⟨rfl, hc5, hs5⟩
        obtain ⟨hC9, hc9⟩ := HR.out
        clear HR hbp hbd hpl hdl hrl hfl hgl hresc0 hresc1 hresc2 hresf0 hresf1 hresf2 hfic0 hfic1 hfic2 hfif0 hfif1 hfif2 hc9c0 hc9c1 hc9c2 hc9f0 hc9f1 hc9f2
        clear hc9
        have hP5 : Prs w5 g (.slice a0 n0 c0) l (k + (n1 + 1)) := HP4.out.go hs5 hc5 hk1
        replace hC9 := hC9.step hs5
        have hc9 := hc5
        have HX5 := Lib.hid (ExpIn.move hs5.size (fun b hb hlt => hs5.2 b hlt (by omega)) (fun b hb _ => hb) x1 _ HX4.out)
        clear hs5 hc5 hN HP4 HX4
        have hCC := hCC w5 hP5
        have hbp := hC9.tb.p.cell 0 _ rfl
        have hbd := hC9.tb.d.cell 0 _ rfl
        have hpl := hC9.tb.p.lt
        have hdl := hC9.tb.d.lt
        have hres := hC9.rs.res
        have hrl := hres.lt
        have hfi := hC9.first
        have hfl := hfi.lt
        have hgl := hc9.lt
        have HR := Lib.hid (And.intro hC9 hc9)
        have hresc0 := hres.cell 0 _ rfl
        have hresf0 := hres.frozen 0
        have hresc1 := hres.cell 1 _ rfl
        have hresf1 := hres.frozen 1
        have hresc2 := hres.cell 2 _ rfl
        have hresf2 := hres.frozen 2
        have hfic0 := hfi.cell 0 _ rfl
        have hfif0 := hfi.frozen 0
        have hfic1 := hfi.cell 1 _ rfl
        have hfif1 := hfi.frozen 1
        have hfic2 := hfi.cell 2 _ rfl
        have hfif2 := hfi.frozen 2
        have hc9c0 := hc9.cell 0 _ rfl
        have hc9f0 := hc9.frozen 0
        have hc9c1 := hc9.cell 1 _ rfl
        have hc9f1 := hc9.frozen 1
        have hc9c2 := hc9.cell 2 _ rfl
        have hc9f2 := hc9.frozen 2
        clear hC9 hc9 hres hfi
        go_wp2_with fail
        refine hCC.mono ?_
        rintro _ w6 ⟨hs6, hc6, o2, t2, a2, m2, c2, rfl, hX6⟩
        simp only at hc6 hX6
        obtain ⟨hC9, hc9⟩ := HR.out
        clear HR hbp hbd hpl hdl hrl hfl hgl hresc0 hresc1 hresc2 hresf0 hresf1 hresf2 hfic0 hfic1 hfic2 hfif0 hfif1 hfif2 hc9c0 hc9c1 hc9c2 hc9f0 hc9f1 hc9f2
        have hlt5 := hC9.first.lt
        have hlr5 := hC9.rs.res.lt
        have hC10 := hC9.step hs6
        have hz6 := hs6.size
        have hc6 : PrC w6 g (.slice a0 n0 c0) ((k + (n1 + 1 + n2) : Nat)) e2 := by rw [Nat.add_assoc] at hc6; exact hc6
        have hP6 : e2 = 0 → Prs w6 g (.slice a0 n0 c0) l (k + (n1 + 1 + n2)) := fun he => by
          subst he; exact hP5.go hs6 hc6 (by omega)
        have hA7 : ExpIn (fun b => w.heap.size ≤ b ∧ b ≠ w.heap.size + 1 + 1 ∧ b ≠ w2.heap.size) w6 x1 (expV o1 t1 (.slice a1 m1 c1)) :=
          ExpIn.move hs6.size (fun b hb hlt => hs6.2 b hlt (by omega)) (fun b hb _ => hb) x1 _ HX5.out
        have hB7 : e2 = 0 → ExpIn (fun b => w.heap.size ≤ b ∧ b ≠ w.heap.size + 1 + 1 ∧ b ≠ w2.heap.size) w6 x2 (expV o2 t2 (.slice a2 m2 c2)) := fun he =>
          ExpIn.move (Nat.le_refl _) (fun b hb _ => rfl) (fun b hb _ => ⟨by omega, by omega, by omega⟩) x2 _ (hX6 he)
        clear hC9 hc9 hs6 hX6 HX5 hP5 hCC
        have hb7 : Below w6.heap.size w6 (w6.alloc (.cells #[.string o2, .string t2, .slice a2 m2 c2] 34)) := (Below.refl _ _).alloc (Nat.le_refl _) _
        have hk7 := Cells.new w6 #[.string o2, .string t2, .slice a2 m2 c2] 34
        have hC9 := hC10.step (Save.of hb7)
        have hc9 := hc6.below hb7 hc6.lt
        have hP7 : e2 = 0 → Prs (w6.alloc (.cells #[.string o2, .string t2, .slice a2 m2 c2] 34)) g (.slice a0 n0 c0) l (k + (n1 + 1 + n2)) := fun he => (hP6 he).step hb7
        have HX7 := Lib.hid (And.intro (ExpIn.below hb7 x1 _ hA7) (fun he => ExpIn.below hb7 x2 _ (hB7 he)))
        have hz7 : (w6.alloc (.cells #[.string o2, .string t2, .slice a2 m2 c2] 34)).heap.size = w6.heap.size + 1 := by simp
        have H7 := Lib.hid (And.intro hC9 (And.intro hc9 (And.intro hP7 hk7)))
        clear hb7 hC9 hc9 hP7 hk7 hA7 hB7 hP6
        have hbp := hC10.tb.p.cell 0 _ rfl
        have hpl := hC10.tb.p.lt
        clear hC10 hc6
        have HZ7 := Lib.hid hz7
        clear hz7
        go_wp2_with fail
        clear hbp hpl
        obtain ⟨hC9, hc9, hP7, hk7⟩ := H7.out
        have hz7 := HZ7.out
        clear H7 HZ7
        generalize w6.alloc (.cells #[.string o2, .string t2, .slice a2 m2 c2] 34) = w7 at *
        clear hc6 hX3 hCC
        have hq7 : w6.heap.size ≠ g ∧ w6.heap.size ≠ w.heap.size + 1 + 1 ∧ w6.heap.size ≠ w2.heap.size ∧ w.heap.size ≤ w6.heap.size := ⟨by omega, by omega, by omega, by omega⟩
        by_cases he2 : e2 = 0
        · subst he2
          have hP7 := hP7 rfl
          obtain ⟨hA7, hB7⟩ := HX7.out
          have hB7 := hB7 rfl
          have hR2 : R = (if isS (l.drop (k + (n1 + 1 + n2))) sCo = false then badX (l.drop (k + (n1 + 1 + n2))) (n1 + 1 + n2) else andX (upX (n1 + 1 + n2 + 1) (parX m .choice (l.drop (k + (n1 + 1 + n2 + 1))) (d + 1))) fun c k3 => (.mk sQ oNo [x1, x2, c], k3, 0)) := by
            rw [HR2.out, andX_ok (by rfl)]; rfl
          have hN := need_ok w7 g _ l (k + (n1 + 1 + n2)) sCo hP7
          by_cases s2 : isS (l.drop (k + (n1 + 1 + n2))) sCo = false
          · rw [if_pos s2, badX_e] at hR2
            rw [s2, if_neg (by simp), if_neg (by simp)] at hN
            have hw : (wrE (l.drop (k + (n1 + 1 + n2))) != 0) = true := by simpa using wrE_ne _
            have hw2 : wrE (l.drop (k + (n1 + 1 + n2))) ≠ 0 := wrE_ne _
            generalize wrE (l.drop (k + (n1 + 1 + n2))) = ee at *
            have HR2 := Lib.hid hR2
            have HW2 := Lib.hid hw2
            clear hR2 hw2 hA7 hB7 HX7 hP7 hk7
            refine hN.mono ?_
            rintro _ w8 ⟨rfl, hc8, hs8⟩
            clear hc9
            replace hC9 := hC9.step hs8
            have hc9 := hc8
            clear hs8 hc8 hN
            have hbp := hC9.tb.p.cell 0 _ rfl
            have hbd := hC9.tb.d.cell 0 _ rfl
            have hpl := hC9.tb.p.lt
            have hdl := hC9.tb.d.lt
            have hres := hC9.rs.res
            have hrl := hres.lt
            have hfi := hC9.first
            have hfl := hfi.lt
            have hgl := hc9.lt
            have HR := Lib.hid (And.intro hC9 hc9)
            have hresc0 := hres.cell 0 _ rfl
            have hresf0 := hres.frozen 0
            have hresc1 := hres.cell 1 _ rfl
            have hresf1 := hres.frozen 1
            have hresc2 := hres.cell 2 _ rfl
            have hresf2 := hres.frozen 2
            have hfic0 := hfi.cell 0 _ rfl
            have hfif0 := hfi.frozen 0
            have hfic1 := hfi.cell 1 _ rfl
            have hfif1 := hfi.frozen 1
            have hfic2 := hfi.cell 2 _ rfl
            have hfif2 := hfi.frozen 2
            have hc9c0 := hc9.cell 0 _ rfl
            have hc9f0 := hc9.frozen 0
            have hc9c1 := hc9.cell 1 _ rfl
            have hc9f1 := hc9.frozen 1
            have hc9c2 := hc9.cell 2 _ rfl
            have hc9f2 := hc9.frozen 2
            clear hC9 hc9 hres hfi
            go_wp2
            obtain ⟨hC9, hc9⟩ := HR.out
            have hR9 := hC9.rs
            have hq := ((hR9.res.setI 0 (.string o1)).setI 1 (.string t1)).setI 2 (.slice a1 m1 c1)
            have hx := hq.cell 0 _ rfl
            have hy := hq.cell 1 _ rfl
            have hz := hq.cell 2 _ rfl
            refine bodyPost_ret (v := .agg #[.string o1, .string t1, .slice a1 m1 c1]) (by simp [results, Tryz.results55, go_sem, hx, hy, hz]) rfl ?_
            have hS9 := hR9.fin [.string o1, .string t1, .slice a1 m1 c1]
            have hP9 := hR9.prc hc9 [.string o1, .string t1, .slice a1 m1 c1]
            show XP g (.slice a0 n0 c0) k _ w _ (setAll w8 (w.heap.size + 1 + 1) 0 [.string o1, .string t1, .slice a1 m1 c1])
            rw [HR2.out]
            exact ⟨hS9, hP9, _, _, _, _, _, rfl, fun h => absurd h HW2.out⟩
          · rw [if_neg s2] at hR2
            have s2t : isS (l.drop (k + (n1 + 1 + n2))) sCo = true := by simpa using s2
            rw [s2t, if_pos rfl, if_pos rfl] at hN
            have hk2 : k + (n1 + 1 + n2) + 1 ≤ l.length := by have := isS_some s2t; rw [List.length_drop] at this; omega
            have hne := HNE.out
            rw [hR2] at hne
            have hr3 : (parX m .choice (l.drop (k + (n1 + 1 + n2 + 1))) (d + 1)).2.2 ≠ -1 := andX_ne (g := upX (n1 + 1 + n2 + 1) (parX m .choice (l.drop (k + (n1 + 1 + n2 + 1))) (d + 1))) hne
            have hle3 := (parX_le m .choice (l.drop (k + (n1 + 1 + n2 + 1))) (d + 1) (by simp only [Nt.okX]) hr3).1
            rw [List.length_drop] at hle3
            have hCC := fun w3 h3 => hC w3 g (.slice a0 n0 c0) l (k + (n1 + 1 + n2 + 1)) (d + 1) h3 (by omega) hr3
            rw [show ((d + 1 : Nat) : Int) = (d : Int) + 1 by omega] at hCC
            clear hne
            generalize parX m .choice (l.drop (k + (n1 + 1 + n2 + 1))) (d + 1) = r3 at *
            obtain ⟨x3, n3, e3⟩ := r3
            simp only at hle3 hr3
            have HR2 := Lib.hid hR2
            clear hR2 hr3 HX7
            refine hN.mono ?_
            rintro _ w8 ⟨rfl, hc8, hs8⟩
            have hP8 : Prs w8 g (.slice a0 n0 c0) l (k + (n1 + 1 + n2 + 1)) := hP7.go hs8 hc8 hk2
            have hC8 := hC9.step hs8
            have hk8 := hs8.cells hk7 hq7.1
            have HX8 := Lib.hid (And.intro (ExpIn.move hs8.size (fun b hb hlt => hs8.2 b hlt (by omega)) (fun b hb _ => hb) x1 _ hA7) (ExpIn.move hs8.size (fun b hb hlt => hs8.2 b hlt (by omega)) (fun b hb _ => hb) x2 _ hB7))
            have hz8 := hs8.size
            clear hc9 hC9 hk7 hA7 hB7 hs8 hP7 hN
            have hC9 := hC8
            have hc9 := hc8
            clear hC8 hc8
            have hCC := hCC w8 hP8
            have hbp := hC9.tb.p.cell 0 _ rfl
            have hbd := hC9.tb.d.cell 0 _ rfl
            have hpl := hC9.tb.p.lt
            have hdl := hC9.tb.d.lt
            have hres := hC9.rs.res
            have hrl := hres.lt
            have hfi := hC9.first
            have hfl := hfi.lt
            have hgl := hc9.lt
            have HR := Lib.hid (And.intro hC9 hc9)
            have hresc0 := hres.cell 0 _ rfl
            have hresf0 := hres.frozen 0
            have hresc1 := hres.cell 1 _ rfl
            have hresf1 := hres.frozen 1
            have hresc2 := hres.cell 2 _ rfl
            have hresf2 := hres.frozen 2
            have hfic0 := hfi.cell 0 _ rfl
            have hfif0 := hfi.frozen 0
            have hfic1 := hfi.cell 1 _ rfl
            have hfif1 := hfi.frozen 1
            have hfic2 := hfi.cell 2 _ rfl
            have hfif2 := hfi.frozen 2
            have hc9c0 := hc9.cell 0 _ rfl
            have hc9f0 := hc9.frozen 0
            have hc9c1 := hc9.cell 1 _ rfl
            have hc9f1 := hc9.frozen 1
            have hc9c2 := hc9.cell 2 _ rfl
            have hc9f2 := hc9.frozen 2
            clear hC9 hc9 hres hfi
            go_wp2_with fail
            refine hCC.mono ?_
            rintro _ w9 ⟨hs9, hc10, o3, t3, a3, m3, c3, rfl, hX9⟩
            simp only at hc10 hX9
            obtain ⟨hC9, hc9⟩ := HR.out
            clear HR hbp hbd hpl hdl hrl hfl hgl hresc0 hresc1 hresc2 hresf0 hresf1 hresf2 hfic0 hfic1 hfic2 hfif0 hfif1 hfif2 hc9c0 hc9c1 hc9c2 hc9f0 hc9f1 hc9f2
            have hlt8 := hC9.first.lt
            have hlr8 := hC9.rs.res.lt
            have hC10 := hC9.step hs9
            have hk9 := hs9.cells hk8 hq7.1
            have hz9 := hs9.size
            have hc10 : PrC w9 g (.slice a0 n0 c0) ((k + (n1 + 1 + n2 + 1 + n3) : Nat)) e3 := by rw [Nat.add_assoc] at hc10; exact hc10
            have hA9 := ExpIn.move hs9.size (fun b hb hlt => hs9.2 b hlt (by omega)) (fun b hb _ => hb) x1 _ HX8.out.1
            have hB9 := ExpIn.move hs9.size (fun b hb hlt => hs9.2 b hlt (by omega)) (fun b hb _ => hb) x2 _ HX8.out.2
            clear hC9 hc9 hs9 hP8 hCC HX8 hk8
            have HX := Lib.hid (And.intro hA9 (And.intro hB9 hX9))
            have hC9 := hC10
            have hc9 := hc10
            clear hC10 hc10 hA9 hB9 hX9
            have hkl9 := hk9.lt
            have hbp := hC9.tb.p.cell 0 _ rfl
            have hbd := hC9.tb.d.cell 0 _ rfl
            have hpl := hC9.tb.p.lt
            have hdl := hC9.tb.d.lt
            have hres := hC9.rs.res
            have hrl := hres.lt
            have hfi := hC9.first
            have hfl := hfi.lt
            have hgl := hc9.lt
            have HR := Lib.hid (And.intro hC9 hc9)
            have hresc0 := hres.cell 0 _ rfl
            have hresf0 := hres.frozen 0
            have hresc1 := hres.cell 1 _ rfl
            have hresf1 := hres.frozen 1
            have hresc2 := hres.cell 2 _ rfl
            have hresf2 := hres.frozen 2
            have hfic0 := hfi.cell 0 _ rfl
            have hfif0 := hfi.frozen 0
            have hfic1 := hfi.cell 1 _ rfl
            have hfif1 := hfi.frozen 1
            have hfic2 := hfi.cell 2 _ rfl
            have hfif2 := hfi.frozen 2
            have hc9c0 := hc9.cell 0 _ rfl
            have hc9f0 := hc9.frozen 0
            have hc9c1 := hc9.cell 1 _ rfl
            have hc9f1 := hc9.frozen 1
            have hc9c2 := hc9.cell 2 _ rfl
            have hc9f2 := hc9.frozen 2
            clear hC9 hc9 hres hfi
            have hk9c0 := hk9.cell 0 _ rfl
            have hk9f0 := hk9.frozen 0
            have hk9c1 := hk9.cell 1 _ rfl
            have hk9f1 := hk9.frozen 1
            have hk9c2 := hk9.cell 2 _ rfl
            have hk9f2 := hk9.frozen 2
            clear hk9
            go_wp2
            obtain ⟨hC9, hc9⟩ := HR.out
            have hR9 := hC9.rs
            have hq := ((((hR9.res.setI 0 (.string sQ)).setI 1 (.string ⟨#[]⟩)).setI 2 (.slice (some ⟨w9.heap.size + 1, 0, none⟩) 3 3)).alloc (.cells #[.string o3, .string t3, .slice a3 m3 c3] 34)).alloc (.cells #[.string o1, .string t1, .slice a1 m1 c1, .string o2, .string t2, .slice a2 m2 c2, .string o3, .string t3, .slice a3 m3 c3] 34)
            have hx := hq.cell 0 _ rfl
            have hy := hq.cell 1 _ rfl
            have hz := hq.cell 2 _ rfl
            refine bodyPost_ret (v := .agg #[.string sQ, .string ⟨#[]⟩, .slice (some ⟨w9.heap.size + 1, 0, none⟩) 3 3]) (by simp [results, Tryz.results55, go_sem, hx, hy, hz]) rfl ?_
            have hS9 := ((hR9.fin [.string sQ, .string ⟨#[]⟩, .slice (some ⟨w9.heap.size + 1, 0, none⟩) 3 3]).alloc (.cells #[.string o3, .string t3, .slice a3 m3 c3] 34)).alloc (.cells #[.string o1, .string t1, .slice a1 m1 c1, .string o2, .string t2, .slice a2 m2 c2, .string o3, .string t3, .slice a3 m3 c3] 34)
            have hP9 := ((hR9.prc hc9 [.string sQ, .string ⟨#[]⟩, .slice (some ⟨w9.heap.size + 1, 0, none⟩) 3 3]).alloc (.cells #[.string o3, .string t3, .slice a3 m3 c3] 34)).alloc (.cells #[.string o1, .string t1, .slice a1 m1 c1, .string o2, .string t2, .slice a2 m2 c2, .string o3, .string t3, .slice a3 m3 c3] 34)
            show XP g (.slice a0 n0 c0) k _ w _ (((setAll w9 (w.heap.size + 1 + 1) 0 [.string sQ, .string ⟨#[]⟩, .slice (some ⟨w9.heap.size + 1, 0, none⟩) 3 3]).alloc (.cells #[.string o3, .string t3, .slice a3 m3 c3] 34)).alloc (.cells #[.string o1, .string t1, .slice a1 m1 c1, .string o2, .string t2, .slice a2 m2 c2, .string o3, .string t3, .slice a3 m3 c3] 34))
            have hsz8 := setAll_size (w.heap.size + 1 + 1) [.string sQ, .string ⟨#[]⟩, .slice (some ⟨w9.heap.size + 1, 0, none⟩) 3 3] 0 w9
            have hot8 := fun b (hb : b ≠ w.heap.size + 1 + 1) => setAll_other (w.heap.size + 1 + 1) [.string sQ, .string ⟨#[]⟩, .slice (some ⟨w9.heap.size + 1, 0, none⟩) 3 3] 0 w9 b hb
            generalize setAll w9 (w.heap.size + 1 + 1) 0 [.string sQ, .string ⟨#[]⟩, .slice (some ⟨w9.heap.size + 1, 0, none⟩) 3 3] = w10 at hS9 hP9 hsz8 hot8 ⊢
            have hk9 := Cells.new (w10.alloc (.cells #[.string o3, .string t3, .slice a3 m3 c3] 34)) #[.string o1, .string t1, .slice a1 m1 c1, .string o2, .string t2, .slice a2 m2 c2, .string o3, .string t3, .slice a3 m3 c3] 34
            rw [World.size_alloc, hsz8] at hk9
            have hot9 : ∀ b, b ≠ w.heap.size + 1 + 1 → b < w9.heap.size → ((w10.alloc (.cells #[.string o3, .string t3, .slice a3 m3 c3] 34)).alloc (.cells #[.string o1, .string t1, .slice a1 m1 c1, .string o2, .string t2, .slice a2 m2 c2, .string o3, .string t3, .slice a3 m3 c3] 34)).heap[b]? = w9.heap[b]? := fun b hb hlt => by
              rw [Below.heap_alloc _ _ _ (by rw [World.size_alloc]; omega), Below.heap_alloc _ _ _ (by omega), hot8 b hb]
            have hs9 : ((w10.alloc (.cells #[.string o3, .string t3, .slice a3 m3 c3] 34)).alloc (.cells #[.string o1, .string t1, .slice a1 m1 c1, .string o2, .string t2, .slice a2 m2 c2, .string o3, .string t3, .slice a3 m3 c3] 34)).heap.size = w9.heap.size + 2 := by
              rw [World.size_alloc, World.size_alloc, hsz8]
            generalize (w10.alloc (.cells #[.string o3, .string t3, .slice a3 m3 c3] 34)).alloc (.cells #[.string o1, .string t1, .slice a1 m1 c1, .string o2, .string t2, .slice a2 m2 c2, .string o3, .string t3, .slice a3 m3 c3] 34) = w11 at hS9 hP9 hk9 hot9 hs9 ⊢
            have hR2 := HR2.out
            obtain ⟨hA9, hB9, hX9⟩ := HX.out
            by_cases he3 : e3 = 0
            · subst he3
              rw [andX_ok (by rfl)] at hR2
              simp only [upX] at hR2
              rw [hR2]
              refine ⟨hS9, hP9, _, _, _, _, _, rfl, fun _ => ?_⟩
              refine node_at (P := fun b => w.heap.size ≤ b) [(x1, expV o1 t1 (.slice a1 m1 c1)), (x2, expV o2 t2 (.slice a2 m2 c2)), (x3, expV o3 t3 (.slice a3 m3 c3))] hk9 (by omega) (fun s hs => ?_) (by unfold maxLen; simp)
              simp at hs
              rcases hs with rfl | rfl | rfl
              · exact ExpIn.move (by omega) (fun b hb hlt => hot9 b hb.2.1 hlt) (fun b hb _ => hb.1) x1 _ hA9
              · exact ExpIn.move (by omega) (fun b hb hlt => hot9 b hb.2.1 hlt) (fun b hb _ => hb.1) x2 _ hB9
              · exact ExpIn.move (by omega) (fun b hb hlt => hot9 b (by omega) hlt) (fun b hb _ => by omega) x3 _ (hX9 rfl)
            · rw [andX_bad (by exact he3)] at hR2
              simp only [upX] at hR2
              rw [hR2]
              exact ⟨hS9, hP9, _, _, _, _, _, rfl, fun h => absurd h he3⟩
        · have hR2 := HR2.out
          rw [andX_bad (by exact he2)] at hR2
          simp only [upX] at hR2
          have HR2 := Lib.hid hR2
          have hN := need_no w7 g _ _ e2 sCo hc9 he2 ⟨_, _, _, rfl⟩
          have hw : (e2 != 0) = true := by simpa using he2
          clear hR2 hP7 HX7 hk7
          refine hN.mono ?_
          rintro _ _ ⟨rfl, nd, rfl⟩
          have hC8 := hC9.step ((Save.refl g _).drewN nd)
          have hc8 := Cells.drewN hc9 nd
          clear hC9 hc9 hN
          have hC9 := hC8
          have hc9 := hc8
          clear hC8 hc8
          have hbp := hC9.tb.p.cell 0 _ rfl
          have hbd := hC9.tb.d.cell 0 _ rfl
          have hpl := hC9.tb.p.lt
          have hdl := hC9.tb.d.lt
          have hres := hC9.rs.res
          have hrl := hres.lt
          have hfi := hC9.first
          have hfl := hfi.lt
          have hgl := hc9.lt
          have HR := Lib.hid (And.intro hC9 hc9)
          have hresc0 := hres.cell 0 _ rfl
          have hresf0 := hres.frozen 0
          have hresc1 := hres.cell 1 _ rfl
          have hresf1 := hres.frozen 1
          have hresc2 := hres.cell 2 _ rfl
          have hresf2 := hres.frozen 2
          have hfic0 := hfi.cell 0 _ rfl
          have hfif0 := hfi.frozen 0
          have hfic1 := hfi.cell 1 _ rfl
          have hfif1 := hfi.frozen 1
          have hfic2 := hfi.cell 2 _ rfl
          have hfif2 := hfi.frozen 2
          have hc9c0 := hc9.cell 0 _ rfl
          have hc9f0 := hc9.frozen 0
          have hc9c1 := hc9.cell 1 _ rfl
          have hc9f1 := hc9.frozen 1
          have hc9c2 := hc9.cell 2 _ rfl
          have hc9f2 := hc9.frozen 2
          clear hC9 hc9 hres hfi
          go_wp2
          obtain ⟨hC9, hc9⟩ := HR.out
          have hR9 := hC9.rs
          have hq := ((hR9.res.setI 0 (.string o1)).setI 1 (.string t1)).setI 2 (.slice a1 m1 c1)
          have hx := hq.cell 0 _ rfl
          have hy := hq.cell 1 _ rfl
          have hz := hq.cell 2 _ rfl
          refine bodyPost_ret (v := .agg #[.string o1, .string t1, .slice a1 m1 c1]) (by simp [results, Tryz.results55, go_sem, hx, hy, hz]) rfl ?_
          have hS9 := hR9.fin [.string o1, .string t1, .slice a1 m1 c1]
          have hP9 := hR9.prc hc9 [.string o1, .string t1, .slice a1 m1 c1]
          show XP g (.slice a0 n0 c0) k _ w _ (setAll (w7.drewN nd) (w.heap.size + 1 + 1) 0 [.string o1, .string t1, .slice a1 m1 c1])
          rw [HR2.out]
          exact ⟨hS9, hP9, _, _, _, _, _, rfl, fun h => absurd h he2⟩
  · have hR2 := HRR.out
    rw [andX_bad (by exact he1)] at hR2
    have HR2 := Lib.hid hR2
    have hI := is_no _ g _ _ e1 sQ hc3 he1 ⟨_, _, _, rfl⟩
    clear hR2 hX3 hPA hs3 HRR
    refine hI.mono ?_
    rintro _ _ ⟨rfl, nd, rfl⟩
    have hC9 := hC3.step ((Save.refl g _).drewN nd)
    have hc9 := hc3.drewN nd
    clear hC3 hc3 hI
    have hbp := hC9.tb.p.cell 0 _ rfl
    have hbd := hC9.tb.d.cell 0 _ rfl
    have hpl := hC9.tb.p.lt
    have hdl := hC9.tb.d.lt
    have hres := hC9.rs.res
    have hrl := hres.lt
    have hfi := hC9.first
    have hfl := hfi.lt
    have hgl := hc9.lt
    have HR := Lib.hid (And.intro hC9 hc9)
    have hresc0 := hres.cell 0 _ rfl
    have hresf0 := hres.frozen 0
    have hresc1 := hres.cell 1 _ rfl
    have hresf1 := hres.frozen 1
    have hresc2 := hres.cell 2 _ rfl
    have hresf2 := hres.frozen 2
    have hfic0 := hfi.cell 0 _ rfl
    have hfif0 := hfi.frozen 0
    have hfic1 := hfi.cell 1 _ rfl
    have hfif1 := hfi.frozen 1
    have hfic2 := hfi.cell 2 _ rfl
    have hfif2 := hfi.frozen 2
    have hc9c0 := hc9.cell 0 _ rfl
    have hc9f0 := hc9.frozen 0
    have hc9c1 := hc9.cell 1 _ rfl
    have hc9f1 := hc9.frozen 1
    have hc9c2 := hc9.cell 2 _ rfl
    have hc9f2 := hc9.frozen 2
    clear hC9 hc9 hres hfi
    go_wp2
    obtain ⟨hC9, hc9⟩ := HR.out
    have hR9 := hC9.rs
    have hq := ((hR9.res.setI 0 (.string o1)).setI 1 (.string t1)).setI 2 (.slice a1 m1 c1)
    have hx := hq.cell 0 _ rfl
    have hy := hq.cell 1 _ rfl
    have hz := hq.cell 2 _ rfl
    refine bodyPost_ret (v := .agg #[.string o1, .string t1, .slice a1 m1 c1]) (by simp [results, Tryz.results55, go_sem, hx, hy, hz]) rfl ?_
    have hS9 := hR9.fin [.string o1, .string t1, .slice a1 m1 c1]
    have hP9 := hR9.prc hc9 [.string o1, .string t1, .slice a1 m1 c1]
    show XP g (.slice a0 n0 c0) k _ w _ (setAll (w3.drewN nd) (w.heap.size + 1 + 1) 0 [.string o1, .string t1, .slice a1 m1 c1])
    rw [HR2.out]
    exact ⟨hS9, hP9, _, _, _, _, _, rfl, fun h => absurd h he1⟩
end Go.Proofs.YthmmgpbojbjihaaGreatDoor
