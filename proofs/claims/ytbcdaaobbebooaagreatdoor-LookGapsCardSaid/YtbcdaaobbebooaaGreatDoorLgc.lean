/- Texts of this claim, one behind the other: ExH, ExI, ExJ, ExK, ExL, BrA, ExM, ExN. -/
import Derived.Test.YtbcdaaobbebooaaGreatDoorLga
import Derived.Test.YtbcdaaobbebooaaGreatDoorLgb
import Derived.Laws.EntriesVeiled
import Derived.Deep.AppendLies
set_option linter.unusedSimpArgs false
set_option linter.unusedVariables false
namespace Go.Proofs.YtbcdaaobbebooaaGreatDoor
set_option maxRecDepth 100000
set_option maxHeartbeats 20000000
open Go.RowKit Go.Tab
abbrev zeroC : Array Value := #[.string ⟨#[]⟩, .string ⟨#[]⟩, .slice none 0 0]
structure Rs (w0 : World) (q g : Nat) (w : World) : Prop where
 save : Save g w0 w
 res : Cells w q zeroC 52
 qg : q ≠ g
 q0 : w0.heap.size <= q
section
variable {w0 w w' : World} {q g : Nat}
theorem Rs.step (h : Rs w0 q g w) (hs : Save g w w') : Rs w0 q g w' := ⟨h.save.trans hs, hs.cells h.res h.qg, h.qg, h.q0⟩
theorem Rs.below (h : Rs w0 q g w) (hb : Below w.heap.size w w') : Rs w0 q g w' := h.step (Save.of hb)
theorem Rs.start {lv : Value} {l : List Tok} {k : Nat} (h : Prs w0 g lv l k) : Rs w0 w0.heap.size g (w0.alloc (.cells zeroC 52)) :=
 ⟨(Save.refl _ _).alloc _, Cells.new _ _ _, by have := h.box.lt; omega, Nat.le_refl _⟩
theorem Prs.step {lv : Value} {l : List Tok} {k : Nat} (h : Prs w g lv l k) (hb : Below w.heap.size w w') : Prs w' g lv l k := h.go (Save.of hb) (h.box.below hb h.box.lt) h.le
theorem Rs.fin (h : Rs w0 q g w) (vals : List Value) : Save g w0 (setAll w q 0 vals) :=
 ⟨setAll_below q 0 (Nat.zero_le _) vals 0 _ _ h.save.1, fun k hk hn => (setAll_other q vals 0 w k (by have := h.q0; omega)).trans (h.save.2 k hk hn)⟩
theorem Rs.prc {lv : Value} {k e : Int} (h : Rs w0 q g w) (hc : PrC w g lv k e) (vals : List Value) : PrC (setAll w q 0 vals) g lv k e := hc.setAllOther (fun e => h.qg e.symm)
theorem node1 {B : Nat} {op text o t : ByteArray} {a : Option Addr} {n c : Nat} {x : Exp} {vals : List Value} (hB : B <= w.heap.size) (hx : ExpIn (fun b => B <= b /\ b ≠ q) w x (expV o t (.slice a n c))) :
  ExpIn (fun b => B <= b) ((setAll w q 0 vals).alloc (.cells #[.string o, .string t, .slice a n c] 52)) (.mk op text [x]) [.string op, .string text, .slice (some ⟨w.heap.size, 0, none⟩) 1 1] :=
 node_new (q := q) (vals := vals) hB [(x, expV o t (.slice a n c))] (by intro s hs; simp at hs; subst hs; exact hx) (by unfold maxLen; simp)
theorem ExpIn.past {B : Nat} {x : Exp} {cs : List Value} (h : ExpIn (fun b => B <= b) w x cs) {B2 : Nat} (h1 : B2 <= B) (h2 : q < B) : ExpIn (fun b => B2 <= b /\ b ≠ q) w x cs :=
 ExpIn.move (Nat.le_refl _) (fun _ _ _ => rfl) (fun b hb _ => ⟨Nat.le_trans h1 hb, by omega⟩) _ _ h
end
theorem ExpIn.keep {w : World} {q B B2 : Nat} {x : Exp} {cs vals : List Value} (h1 : B2 <= B) (h2 : q < B) (h : ExpIn (fun b => B <= b) w x cs) : ExpIn (fun b => B2 <= b) (setAll w q 0 vals) x cs :=
 ExpIn.move (by rw [setAll_size]; exact Nat.le_refl _) (fun b hb _ => setAll_other _ _ 0 _ b (by omega)) (fun b hb _ => Nat.le_trans h1 hb) _ _ h
theorem andX_ne {g : GotX} {f : Exp -> Nat -> GotX} (h : (andX g f).2.2 ≠ -1) : g.2.2 ≠ -1 := by
 unfold andX at h; split at h
 ·next he => rw [he]; decide
 ·exact h
theorem tight_step (m : Nat) (hT : TightC m) (hP : PostC m) : TightC (m + 1) := by
 intro w g lv l k d h hd hne; obtain ⟨a0, n0, c0, rfl⟩ := h.sl; have hR := Rs.start h; have h1 := h.step ((Below.refl _ w).alloc (Nat.le_refl _) (.cells zeroC 52)); have hkl := h.le; have hsm := h.small; rw [parX] at hne ⊢; have hI1 := is_ok _ g _ l k sBang h1
 by_cases s1 : isS (l.drop k) sBang = true
 ·rw [if_neg (by rw [s1]; simp)] at hne ⊢
  rw [s1] at hI1; rw [if_pos s1] at hne ⊢
  by_cases hd6 : 64 <= d
  ·rw [if_pos hd6]
   clear hne; go_enter Tryz.func217, Tryz.ntmps217; go_wp2_with fail; refine hI1.mono ?_; rintro _ w2 ⟨rfl, hb2⟩; have h2 := h1.step hb2; have hR2 := hR.below hb2; go_wp2_with fail; refine (into_no w2 g _ k d h2.box hd6).mono ?_; rintro _ w3 ⟨rfl, hc9, hs3⟩; have hR9 := hR2.step hs3; clear hs3 hR2 h2 hb2 hR h1 h; have hrl := hR9.res.lt; have HR := Lib.hid (And.intro hR9 hc9); have hres := hR9.res; clear hR9 hc9; have hresc0 := hres.cell 0 _ rfl; have hresf0 := hres.frozen 0; have hresc1 := hres.cell 1 _ rfl; have hresf1 := hres.frozen 1; have hresc2 := hres.cell 2 _ rfl; have hresf2 := hres.frozen 2; clear hres; go_wp2; obtain ⟨hR9, hc9⟩ := HR.out; have hq := ((hR9.res.setI 0 (.string ⟨#[]⟩)).setI 1 (.string ⟨#[]⟩)).setI 2 (.slice none 0 0); have hx := hq.cell 0 _ rfl; have hy := hq.cell 1 _ rfl; have hz := hq.cell 2 _ rfl; refine bodyPost_ret (v := .agg #[.string ⟨#[]⟩, .string ⟨#[]⟩, .slice none 0 0]) (by simp [results, Tryz.results217, go_sem, hx, hy, hz]) rfl ?_; have hS9 := hR9.fin [.string ⟨#[]⟩, .string ⟨#[]⟩, .slice none 0 0]; have hP9 := hR9.prc hc9 [.string ⟨#[]⟩, .string ⟨#[]⟩, .slice none 0 0]; show XP g (.slice a0 n0 c0) k _ w _ (setAll w3 w.heap.size 0 [.string ⟨#[]⟩, .string ⟨#[]⟩, .slice none 0 0]); exact ⟨hS9, hP9, _, _, _, _, _, rfl, fun h => by cases h⟩
  ·rw [if_neg hd6, List.drop_drop] at hne
   rw [if_neg hd6, List.drop_drop]; have hl1 := isS_some s1; rw [List.length_drop] at hl1; have hr1 := andX_ne hne; simp only [upX] at hr1; have hTT := fun w3 h3 => hT w3 g (.slice a0 n0 c0) l (k + 1) (d + 1) h3 (by omega) hr1; rw [show ((d + 1 : Nat) : Int) = (d : Int) + 1 by omega] at hTT; clear hne hr1; generalize parX m .tight (l.drop (k + 1)) (d + 1) = r1 at *; obtain ⟨x1, n1, e1⟩ := r1; go_enter Tryz.func217, Tryz.ntmps217; go_wp2_with fail; refine hI1.mono ?_; rintro _ w2 ⟨rfl, hb2⟩; have h2 := h1.step hb2; have hR2 := hR.below hb2; go_wp2_with fail; refine (into_yes w2 g _ k d h2.box (by omega) (by omega)).mono ?_; rintro _ w3 ⟨rfl, hc3, hs3⟩; have h3 := h2.go hs3 hc3 (by omega); have hR3 := hR2.step hs3; go_wp2_with fail; refine (hTT w3 h3).mono ?_; rintro _ w4 ⟨hs4, hc9, o, t, a, n, c, rfl, hX⟩; have hR9 := hR3.step hs4; have hsz := hR3.res.lt; have hw0 := hR3.save.size; have HX := Lib.hid hX; clear hX hs4 hR3 h3 hs3 hc3 hR2 h2 hb2 hR h1 h hTT; simp only at hc9; have hrl := hR9.res.lt; have HR := Lib.hid (And.intro hR9 hc9); have hres := hR9.res; clear hR9 hc9; have hresc0 := hres.cell 0 _ rfl; have hresf0 := hres.frozen 0; have hresc1 := hres.cell 1 _ rfl; have hresf1 := hres.frozen 1; have hresc2 := hres.cell 2 _ rfl; have hresf2 := hres.frozen 2; clear hres; have hB9 := HR.out.1.save.size; go_wp2; obtain ⟨hR9, hc9⟩ := HR.out; have hq := (((hR9.res.setI 0 (.string sBang)).setI 1 (.string ⟨#[]⟩)).setI 2 (.slice (some ⟨w4.heap.size, 0, none⟩) 1 1)).alloc (.cells #[.string o, .string t, .slice a n c] 52)
   have hx := hq.cell 0 _ rfl; have hy := hq.cell 1 _ rfl; have hz := hq.cell 2 _ rfl; refine bodyPost_ret (v := .agg #[.string sBang, .string ⟨#[]⟩, .slice (some ⟨w4.heap.size, 0, none⟩) 1 1]) (by simp [results, Tryz.results217, go_sem, hx, hy, hz]) rfl ?_; have hS9 := (hR9.fin [.string sBang, .string ⟨#[]⟩, .slice (some ⟨w4.heap.size, 0, none⟩) 1 1]).alloc (.cells #[.string o, .string t, .slice a n c] 52); have hP9 := (hR9.prc hc9 [.string sBang, .string ⟨#[]⟩, .slice (some ⟨w4.heap.size, 0, none⟩) 1 1]).alloc (.cells #[.string o, .string t, .slice a n c] 52); show XP g (.slice a0 n0 c0) k _ w _ ((setAll w4 w.heap.size 0 [.string sBang, .string ⟨#[]⟩, .slice (some ⟨w4.heap.size, 0, none⟩) 1 1]).alloc (.cells #[.string o, .string t, .slice a n c] 52))
   by_cases he : e1 = 0
   ·subst he
    rw [show k + 1 + n1 = k + (1 + n1) by omega] at hP9; rw [andX_ok (by rfl)]; simp only [upX]; exact ⟨hS9, hP9, _, _, _, _, _, rfl, fun _ => node1 (q := w.heap.size) (op := sBang) (text := ⟨#[]⟩) (vals := [.string sBang, .string ⟨#[]⟩, .slice (some ⟨w4.heap.size, 0, none⟩) 1 1]) hB9 (ExpIn.past (HX.out rfl) hw0 hsz)⟩
   ·rw [show k + 1 + n1 = k + (1 + n1) by omega] at hP9
    rw [andX_bad (by exact he)]; exact ⟨hS9, hP9, _, _, _, _, _, rfl, fun h => absurd h he⟩
 ·have s1f : isS (l.drop k) sBang = false := by simpa using s1
  rw [s1f] at hI1
  by_cases s2 : isS (l.drop k) sMinus = true
  ·rw [if_neg (by rw [s2]; simp)] at hne ⊢
   rw [if_neg s1] at hne ⊢
   by_cases hd6 : 64 <= d
   ·rw [if_pos hd6]
    clear hne; go_enter Tryz.func217, Tryz.ntmps217; go_wp2_with fail; refine hI1.mono ?_; rintro _ w1 ⟨rfl, hb1⟩; have h11 := h1.step hb1; go_wp2_with fail; refine (is_ok _ g _ l k sMinus h11).mono ?_; rw [s2]; rintro _ w2 ⟨rfl, hb9⟩; have hb2 : Below (w.alloc (.cells zeroC 52)).heap.size (w.alloc (.cells zeroC 52)) w2 := hb1.trans (hb9.mono hb1.size); clear hb9 hb1 h11; have h2 := h1.step hb2; have hR2 := hR.below hb2; go_wp2_with fail; refine (into_no w2 g _ k d h2.box hd6).mono ?_; rintro _ w3 ⟨rfl, hc9, hs3⟩; have hR9 := hR2.step hs3; clear hs3 hR2 h2 hb2 hR h1 h; have hrl := hR9.res.lt; have HR := Lib.hid (And.intro hR9 hc9); have hres := hR9.res; clear hR9 hc9; have hresc0 := hres.cell 0 _ rfl; have hresf0 := hres.frozen 0; have hresc1 := hres.cell 1 _ rfl; have hresf1 := hres.frozen 1; have hresc2 := hres.cell 2 _ rfl; have hresf2 := hres.frozen 2; clear hres; go_wp2; obtain ⟨hR9, hc9⟩ := HR.out; have hq := ((hR9.res.setI 0 (.string ⟨#[]⟩)).setI 1 (.string ⟨#[]⟩)).setI 2 (.slice none 0 0); have hx := hq.cell 0 _ rfl; have hy := hq.cell 1 _ rfl; have hz := hq.cell 2 _ rfl; refine bodyPost_ret (v := .agg #[.string ⟨#[]⟩, .string ⟨#[]⟩, .slice none 0 0]) (by simp [results, Tryz.results217, go_sem, hx, hy, hz]) rfl ?_; have hS9 := hR9.fin [.string ⟨#[]⟩, .string ⟨#[]⟩, .slice none 0 0]; have hP9 := hR9.prc hc9 [.string ⟨#[]⟩, .string ⟨#[]⟩, .slice none 0 0]; show XP g (.slice a0 n0 c0) k _ w _ (setAll w3 w.heap.size 0 [.string ⟨#[]⟩, .string ⟨#[]⟩, .slice none 0 0]); exact ⟨hS9, hP9, _, _, _, _, _, rfl, fun h => by cases h⟩
   ·rw [if_neg hd6, List.drop_drop] at hne
    rw [if_neg hd6, List.drop_drop]; have hl1 := isS_some s2; rw [List.length_drop] at hl1; have hr1 := andX_ne hne; simp only [upX] at hr1; have hTT := fun w3 h3 => hT w3 g (.slice a0 n0 c0) l (k + 1) (d + 1) h3 (by omega) hr1; rw [show ((d + 1 : Nat) : Int) = (d : Int) + 1 by omega] at hTT; clear hne hr1; generalize parX m .tight (l.drop (k + 1)) (d + 1) = r1 at *; obtain ⟨x1, n1, e1⟩ := r1; go_enter Tryz.func217, Tryz.ntmps217; go_wp2_with fail; refine hI1.mono ?_; rintro _ w1 ⟨rfl, hb1⟩; have h11 := h1.step hb1; go_wp2_with fail; refine (is_ok _ g _ l k sMinus h11).mono ?_; rw [s2]; rintro _ w2 ⟨rfl, hb9⟩; have hb2 : Below (w.alloc (.cells zeroC 52)).heap.size (w.alloc (.cells zeroC 52)) w2 := hb1.trans (hb9.mono hb1.size); clear hb9 hb1 h11; have h2 := h1.step hb2; have hR2 := hR.below hb2; go_wp2_with fail; refine (into_yes w2 g _ k d h2.box (by omega) (by omega)).mono ?_; rintro _ w3 ⟨rfl, hc3, hs3⟩; have h3 := h2.go hs3 hc3 (by omega); have hR3 := hR2.step hs3; go_wp2_with fail; refine (hTT w3 h3).mono ?_; rintro _ w4 ⟨hs4, hc9, o, t, a, n, c, rfl, hX⟩; have hR9 := hR3.step hs4; have hsz := hR3.res.lt; have hw0 := hR3.save.size; have HX := Lib.hid hX; clear hX hs4 hR3 h3 hs3 hc3 hR2 h2 hb2 hR h1 h hTT; simp only at hc9; have hrl := hR9.res.lt; have HR := Lib.hid (And.intro hR9 hc9); have hres := hR9.res; clear hR9 hc9; have hresc0 := hres.cell 0 _ rfl; have hresf0 := hres.frozen 0; have hresc1 := hres.cell 1 _ rfl; have hresf1 := hres.frozen 1; have hresc2 := hres.cell 2 _ rfl
    have hresf2 := hres.frozen 2; clear hres; have hB9 := HR.out.1.save.size; go_wp2; obtain ⟨hR9, hc9⟩ := HR.out; have hq := (((hR9.res.setI 0 (.string oNeg)).setI 1 (.string ⟨#[]⟩)).setI 2 (.slice (some ⟨w4.heap.size, 0, none⟩) 1 1)).alloc (.cells #[.string o, .string t, .slice a n c] 52); have hx := hq.cell 0 _ rfl; have hy := hq.cell 1 _ rfl; have hz := hq.cell 2 _ rfl; refine bodyPost_ret (v := .agg #[.string oNeg, .string ⟨#[]⟩, .slice (some ⟨w4.heap.size, 0, none⟩) 1 1]) (by simp [results, Tryz.results217, go_sem, hx, hy, hz]) rfl ?_; have hS9 := (hR9.fin [.string oNeg, .string ⟨#[]⟩, .slice (some ⟨w4.heap.size, 0, none⟩) 1 1]).alloc (.cells #[.string o, .string t, .slice a n c] 52); have hP9 := (hR9.prc hc9 [.string oNeg, .string ⟨#[]⟩, .slice (some ⟨w4.heap.size, 0, none⟩) 1 1]).alloc (.cells #[.string o, .string t, .slice a n c] 52); show XP g (.slice a0 n0 c0) k _ w _ ((setAll w4 w.heap.size 0 [.string oNeg, .string ⟨#[]⟩, .slice (some ⟨w4.heap.size, 0, none⟩) 1 1]).alloc (.cells #[.string o, .string t, .slice a n c] 52))
    by_cases he : e1 = 0
    ·subst he
     rw [show k + 1 + n1 = k + (1 + n1) by omega] at hP9; rw [andX_ok (by rfl)]; simp only [upX]; exact ⟨hS9, hP9, _, _, _, _, _, rfl, fun _ => node1 (q := w.heap.size) (op := oNeg) (text := ⟨#[]⟩) (vals := [.string oNeg, .string ⟨#[]⟩, .slice (some ⟨w4.heap.size, 0, none⟩) 1 1]) hB9 (ExpIn.past (HX.out rfl) hw0 hsz)⟩
    ·rw [show k + 1 + n1 = k + (1 + n1) by omega] at hP9
     rw [andX_bad (by exact he)]; exact ⟨hS9, hP9, _, _, _, _, _, rfl, fun h => absurd h he⟩
  ·have s2f : isS (l.drop k) sMinus = false := by simpa using s2
   rw [if_pos ⟨s1f, s2f⟩] at hne ⊢; have hPP := fun w3 h3 => hP w3 g (.slice a0 n0 c0) l k d h3 hd hne; clear hne; generalize parX m .post (l.drop k) d = r1 at *; obtain ⟨x1, n1, e1⟩ := r1; go_enter Tryz.func217, Tryz.ntmps217; go_wp2_with fail; refine hI1.mono ?_; rintro _ w1 ⟨rfl, hb1⟩; have h11 := h1.step hb1; go_wp2_with fail; refine (is_ok _ g _ l k sMinus h11).mono ?_; rw [s2f]; rintro _ w2 ⟨rfl, hb2⟩; have h2 := h11.step hb2; have hR2 := (hR.below hb1).below hb2; go_wp2_with fail; refine (hPP w2 h2).mono ?_; rintro _ w4 ⟨hs4, hc9, o, t, a, n, c, rfl, hX⟩; have hR9 := hR2.step hs4; have hsz := hR2.res.lt; have hw0 := hR2.save.size; have HX := Lib.hid hX; clear hX hs4 hR2 h2 hb2 h11 hb1 hR h1 h hPP; simp only at hc9; have hrl := hR9.res.lt; have HR := Lib.hid (And.intro hR9 hc9); have hres := hR9.res; clear hR9 hc9; have hresc0 := hres.cell 0 _ rfl; have hresf0 := hres.frozen 0; have hresc1 := hres.cell 1 _ rfl; have hresf1 := hres.frozen 1; have hresc2 := hres.cell 2 _ rfl; have hresf2 := hres.frozen 2; clear hres; go_wp2; obtain ⟨hR9, hc9⟩ := HR.out; have hq := ((hR9.res.setI 0 (.string o)).setI 1 (.string t)).setI 2 (.slice a n c); have hx := hq.cell 0 _ rfl; have hy := hq.cell 1 _ rfl; have hz := hq.cell 2 _ rfl; refine bodyPost_ret (v := .agg #[.string o, .string t, .slice a n c]) (by simp [results, Tryz.results217, go_sem, hx, hy, hz]) rfl ?_; have hS9 := hR9.fin [.string o, .string t, .slice a n c]; have hP9 := hR9.prc hc9 [.string o, .string t, .slice a n c]; show XP g (.slice a0 n0 c0) k _ w _ (setAll w4 w.heap.size 0 [.string o, .string t, .slice a n c])
   exact ⟨hS9, hP9, _, _, _, _, _, rfl, fun he => ExpIn.keep hw0 hsz (HX.out he)⟩
def posOf (w : World) (g : Nat) : Nat := match w.cell? ⟨g, 1, none⟩ with
 | some (.int _ n) => n.toNat
 | _ => 0
theorem PrC.pos {w : World} {g : Nat} {lv : Value} {k : Nat} {e : Int} (h : PrC w g lv (k : Nat) e) : posOf w g = k := by
 unfold posOf; rw [Cells.cell h 1 (.int .i64 (k : Nat)) rfl]; simp
def TL (w0 : World) (q q2 g bp bd bt : Nat) (lv : Value) (l : List Tok) (k d n m : Nat) (R : GotX) (wr : World) : Prop :=
  Rs w0 q g wr /\ TBox wr g bp bd bt d /\ ∃ o t a nn c, Cells wr q2 #[.string o, .string t, .slice a nn c] 52 /\
    ((∃ j x k', j <= m /\ Prs wr g lv l k' /\ k <= k' /\ R = upX (k' - k) (parX j (.tloop n x) (l.drop k') d) /\ ExpIn (fun b => w0.heap.size <= b /\ b ≠ q /\ b ≠ q2) wr x (expV o t (.slice a nn c))) \/
     (∃ (k' : Nat) (e : Int), PrC wr g lv (k' : Nat) e /\ e ≠ 0 /\ k <= k' /\ R = (zeroX, k' - k, e)))
theorem upX_upX (a b : Nat) (g : GotX) : upX a (upX b g) = upX (a + b) g := by unfold upX; simp only [Nat.add_assoc]
theorem node_at {P : Nat -> Prop} {b : Nat} {W : World} {op text : ByteArray} (kids : List (Exp × List Value)) (hc : Cells W b (kids.flatMap (·.2)).toArray 52) (hP : P b) (hk : ∀ s ∈ kids, ExpIn P W s.1 s.2) (hm : kids.length <= maxLen) :
  ExpIn P W (.mk op text (kids.map (·.1))) [.string op, .string text, .slice (some ⟨b, 0, none⟩) kids.length kids.length] := by
 have hlen : (kids.map (·.1)).length = kids.length := List.length_map ..; have h3 : ∀ s ∈ kids, s.2.length = 3 := fun s hs => (hk s hs).len3; simp only [ExpIn]; refine ⟨some ⟨b, 0, none⟩, kids.length, by rw [hlen], by rw [hlen]; exact Nat.le_refl _, hm, (fun h => by cases h), fun x hx _ => ?_⟩; cases hx
 refine ⟨rfl, ⟨hc.lt, hP, fun off => hc.frozen off⟩, ExpsIn.make _ 0 (fun k hkl => ?_)⟩; rw [hlen] at hkl; refine ⟨kids[k].2, fun j u hu => ?_, ?_⟩
 ·rw [Nat.zero_add]
  refine hc.cell _ _ ?_; have hj : j < 3 := by have := (List.getElem?_eq_some_iff.1 hu).1; rw [h3 _ (List.getElem_mem hkl)] at this; exact this
  simp only [List.getElem?_toArray]; rw [flat3_get kids h3 k hkl j hj]; exact hu
 ·rw [List.getElem_map]
  exact hk _ (List.getElem_mem hkl)
theorem Save.setAllNew {w w' : World} {g q : Nat} (h : Save g w w') (hq : w.heap.size <= q) (vals : List Value) : Save g w (setAll w' q 0 vals) :=
 ⟨setAll_below q 0 (Nat.zero_le _) vals 0 _ _ h.1, fun k hk hn => (setAll_other q vals 0 w' k (by omega)).trans (h.2 k hk hn)⟩
theorem term_step (m : Nat) (hT : TightC m) (hTm : ∀ j, j <= m -> TermC j) : TermC (m + 1) := by
 intro w g lv l k d n bp bd bt h hB hd hn1 hn7 hne; obtain ⟨a0, n0, c0, rfl⟩ := h.sl; have hR := Rs.start h; have h1 := h.step ((Below.refl _ w).alloc (Nat.le_refl _) (.cells zeroC 52)); have hB1 := hB.save ((Save.refl g w).alloc (.cells zeroC 52)); have hkl := h.le; have hsm := h.small; have hgw := h.box.lt; have H0 := Lib.hid (And.intro h hB); rw [parX] at hne ⊢; have hpl := hB1.p.lt; have hdl := hB1.d.lt; have htl := hB1.t.lt; have hbp := hB1.p.cell 0 _ rfl; have hbd := hB1.d.cell 0 _ rfl; have hbt := hB1.t.cell 0 _ rfl
 by_cases h7 : n = 7
 ·subst h7
  rw [if_pos (by omega)] at hne ⊢; have hTT := fun w3 h3 => hT w3 g (.slice a0 n0 c0) l k d h3 hd hne; clear hne; generalize parX m .tight (l.drop k) d = r1 at *; obtain ⟨x1, n1, e1⟩ := r1; go_enter Tryz.func216, Tryz.ntmps216; go_wp2_with fail; refine (hTT _ h1).mono ?_; rintro _ w4 ⟨hs4, hc9, o, t, a, n, c, rfl, hX⟩; have hR9 := hR.step hs4; have hsz : w.heap.size < (w.alloc (.cells zeroC 52)).heap.size := by simp
  have hw0 : w.heap.size <= (w.alloc (.cells zeroC 52)).heap.size := by simp
  have HX := Lib.hid hX; clear hX hs4 hR h1 h hTT hB hB1 hbp hbd hbt; simp only at hc9; have hrl := hR9.res.lt; have HR := Lib.hid (And.intro hR9 hc9); have hres := hR9.res; clear hR9 hc9; have hresc0 := hres.cell 0 _ rfl; have hresf0 := hres.frozen 0; have hresc1 := hres.cell 1 _ rfl; have hresf1 := hres.frozen 1; have hresc2 := hres.cell 2 _ rfl; have hresf2 := hres.frozen 2; clear hres; go_wp2; obtain ⟨hR9, hc9⟩ := HR.out; have hq := ((hR9.res.setI 0 (.string o)).setI 1 (.string t)).setI 2 (.slice a n c); have hx := hq.cell 0 _ rfl; have hy := hq.cell 1 _ rfl; have hz := hq.cell 2 _ rfl; refine bodyPost_ret (v := .agg #[.string o, .string t, .slice a n c]) (by simp [results, Tryz.results216, go_sem, hx, hy, hz]) rfl ?_; have hS9 := hR9.fin [.string o, .string t, .slice a n c]; have hP9 := hR9.prc hc9 [.string o, .string t, .slice a n c]; show XP g (.slice a0 n0 c0) k _ w _ (setAll w4 w.heap.size 0 [.string o, .string t, .slice a n c]); exact ⟨hS9, hP9, _, _, _, _, _, rfl, fun he => ExpIn.keep hw0 hsz (HX.out he)⟩
 ·have hn6 : n < 7 := by omega
  have hnb : ((n : Int) == 7) = false := by rw [beq_eq_false_iff_ne]; omega
  rw [if_neg (by omega)] at hne ⊢; have hr1 := andX_ne hne; have hle1 : (parX m (.term (n + 1)) (l.drop k) d).2.1 <= (l.drop k).length := (parX_le m (.term (n + 1)) (l.drop k) d (by simp only [Nt.okX]; omega) hr1).1; have hTT := fun w3 h3 hb3 => hTm m (Nat.le_refl _) w3 g (.slice a0 n0 c0) l k d (n + 1) bp bd bt h3 hb3 hd (by omega) (by omega) hr1; rw [show ((n + 1 : Nat) : Int) = (n : Int) + 1 by omega] at hTT; obtain ⟨R, hRR⟩ : ∃ R, (andX (parX m (.term (n + 1)) (l.drop k) d) fun a k2 => upX k2 (parX m (.tloop n a) ((l.drop k).drop k2) d)) = R := ⟨_, rfl⟩; rw [hRR] at hne ⊢; have HRR := Lib.hid hRR; clear hRR hr1 h7; generalize parX m (.term (n + 1)) (l.drop k) d = r1 at *; obtain ⟨x1, n1, e1⟩ := r1; go_enter Tryz.func216, Tryz.ntmps216; go_wp2_with fail; refine (hTT _ h1 hB1).mono ?_; rintro _ w4 ⟨hs4, hc4, o, t, a, nn, c, rfl, hX⟩; simp only at hc4; have hR4 := hR.step hs4; have hB4 := hB1.save hs4; have hz4 := hs4.size; simp only [World.size_alloc] at hz4; have hR5 := hR4.below ((Below.refl _ w4).alloc (Nat.le_refl _) (.cells #[.string o, .string t, .slice a nn c] 52)); have hB5 := hB4.save ((Save.refl g w4).alloc (.cells #[.string o, .string t, .slice a nn c] 52)); have hc5 := hc4.alloc (.cells #[.string o, .string t, .slice a nn c] 52); have hq5 := Cells.new w4 #[.string o, .string t, .slice a nn c] 52
  have hTL : TL w w.heap.size w4.heap.size g bp bd bt (.slice a0 n0 c0) l k d n m R (w4.alloc (.cells #[.string o, .string t, .slice a nn c] 52)) := by
   refine ⟨hR5, hB5, o, t, a, nn, c, hq5, ?_⟩
   by_cases he : e1 = 0
   ·subst he
    left
    have hle := hle1
    (try simp only at hle)
    rw [List.length_drop] at hle; refine ⟨m, x1, k + n1, Nat.le_refl _, (h1.go hs4 hc4 (by omega)).step ((Below.refl _ w4).alloc (Nat.le_refl _) _), by omega, ?_, ?_⟩
    ·rw [<- HRR.out, andX_ok (by rfl)]
     simp only [List.drop_drop]; rw [show k + n1 - k = n1 by omega]
    ·refine ExpIn.move (by simp) (fun b _ hlt => Below.heap_alloc _ _ _ hlt) (fun b hb hlt => ?_) _ _ (hX rfl)
     simp only [World.size_alloc] at hb; exact ⟨by omega, by omega, by omega⟩
   ·right
    exact ⟨k + n1, e1, hc5, he, by omega, by rw [<- HRR.out, andX_bad (by exact he), show k + n1 - k = n1 by omega]⟩
  have HTL := Lib.hid hTL; clear hTL hX hq5 hc5 hB5 hR5 hB4 hR4 hc4 hs4 hB1 hR h1 h hTT hB hbp hbd hbt hle1 HRR; have hq2 : w.heap.size < w4.heap.size := by omega
  go_wp2_with fail; go_loopw [7, 8] (fun _ _ wr => TL w w.heap.size w4.heap.size g bp bd bt (.slice a0 n0 c0) l k d n m R wr) (fun _ _ wr => l.length + 1 - posOf wr g)
  case atStart => exact HTL.out
  case round =>
   clear HTL; obtain ⟨hR5, hB5, o5, t5, a5, nn5, c5, hq5, hst⟩ := hrel; have hpl := hB5.p.lt; have hdl := hB5.d.lt; have htl := hB5.t.lt; have hbp := hB5.p.cell 0 _ rfl; have hbd := hB5.d.cell 0 _ rfl; have hbt := hB5.t.cell 0 _ rfl; have hql := hq5.lt; rcases hst with ⟨j, x, k', hj, h5, hkk, hRe, hX⟩ | ⟨k', e, hc5, he, hkk, hRe⟩
   ·cases hil : isL (l.drop k') n with
    | none =>
     have hrn : ((rkN (l.drop k') : Int) == (n : Int)) = false := by
      rw [beq_eq_false_iff_ne]; intro e; obtain ⟨o, ho⟩ := (rkN_iff hn1 (by omega)).1 e; rw [hil] at ho; cases ho
     have hrk := rank_ok wr g _ l k' h5
     have hRx : R = (x, k' - k, 0) := by
      rw [hRe]
      cases j with
      | zero => rw [hRe] at hne; exact absurd rfl hne
      | succ j => rw [parX, hil]; rfl
     generalize rkN (l.drop k') = rk at *; go_wp2_with fail; refine hrk.mono ?_; rintro _ _ ⟨rfl, nd, rfl⟩; have hR9 := hR5.step ((Save.refl g wr).drewN nd); have hc9 := h5.box.drewN nd; have hq6 := hq5.drewN nd; have HX := Lib.hid hX; clear hR5 hB5 h5 hbp hbd hbt hq5 hX hRe hrk; have hrl := hR9.res.lt; have HR := Lib.hid (And.intro hR9 hc9); have hres := hR9.res; clear hR9 hc9; have hresc0 := hres.cell 0 _ rfl; have hresf0 := hres.frozen 0; have hresc1 := hres.cell 1 _ rfl; have hresf1 := hres.frozen 1; have hresc2 := hres.cell 2 _ rfl; have hresf2 := hres.frozen 2; clear hres; have hq6c0 := hq6.cell 0 _ rfl; have hq6f0 := hq6.frozen 0; have hq6c1 := hq6.cell 1 _ rfl; have hq6f1 := hq6.frozen 1; have hq6c2 := hq6.cell 2 _ rfl; have hq6f2 := hq6.frozen 2; go_wp2; obtain ⟨hR9, hc9⟩ := HR.out; have hq := ((hR9.res.setI 0 (.string o5)).setI 1 (.string t5)).setI 2 (.slice a5 nn5 c5); have hx := hq.cell 0 _ rfl; have hy := hq.cell 1 _ rfl; have hz := hq.cell 2 _ rfl; refine bodyPost_ret (v := .agg #[.string o5, .string t5, .slice a5 nn5 c5]) (by simp [results, Tryz.results216, go_sem, hx, hy, hz]) rfl ?_; have hS9 := hR9.fin [.string o5, .string t5, .slice a5 nn5 c5]; have hP9 := hR9.prc hc9 [.string o5, .string t5, .slice a5 nn5 c5]; show XP g (.slice a0 n0 c0) k _ w _ (setAll (wr.drewN nd) w.heap.size 0 [.string o5, .string t5, .slice a5 nn5 c5]); rw [hRx]; have hkx : k + (k' - k) = k' := by omega
     exact ⟨hS9, by show PrC _ g _ ((k + (k' - k) : Nat)) 0; rw [hkx]; exact hP9, _, _, _, _, _, rfl, fun _ => ExpIn.move (P := fun b => w.heap.size <= b /\ b ≠ w.heap.size /\ b ≠ w4.heap.size) (by rw [setAll_size]; exact Nat.le_refl _) (fun b hb _ => setAll_other _ _ 0 _ b hb.2.1) (fun b hb _ => hb.1) x _ (ExpIn.below (below_draws _ _ _) x _ HX.out)⟩
    | some op =>
     have hrn : ((rkN (l.drop k') : Int) == (n : Int)) = true := by
      rw [beq_iff_eq]; exact (rkN_iff hn1 (by omega)).2 ⟨op, hil⟩
     have hrk := rank_ok wr g _ l k' h5; have hk1 : k' < l.length := by have := isL_some hil; rw [List.length_drop] at this; omega
     obtain ⟨tk, tq, htk, hop⟩ := isL_text hil
     have htk2 : l[k'] = tk := by
      rw [List.drop_eq_getElem_cons hk1] at htk; exact (List.cons.inj htk).1
     obtain ⟨tb, tof, hte, htb, c0', c1', c2'⟩ := ToksAt.get h5.toks hk1; rw [htk2, hop] at c1'; subst hte
     cases j with
     | zero => rw [hRe] at hne; exact absurd rfl hne
     | succ j =>
     rw [parX, hil] at hRe; simp only at hRe; rw [List.drop_drop] at hRe
     have hnx : (andX (upX 1 (parX j (.term (n + 1)) (l.drop (k' + 1)) d)) fun b k2 => upX k2 (parX j (.tloop n (.mk op oNo [x, b])) ((l.drop k').drop k2) d)).2.2 ≠ -1 := by
      rw [hRe] at hne; exact hne
     have hr2 : (parX j (.term (n + 1)) (l.drop (k' + 1)) d).2.2 ≠ -1 := andX_ne (g := upX 1 (parX j (.term (n + 1)) (l.drop (k' + 1)) d)) hnx; clear hnx; have hle2 : (parX j (.term (n + 1)) (l.drop (k' + 1)) d).2.1 <= (l.drop (k' + 1)).length := (parX_le j (.term (n + 1)) (l.drop (k' + 1)) d (by simp only [Nt.okX]; omega) hr2).1; rw [List.length_drop] at hle2; have hTT := fun w3 h3 hb3 => hTm j (by omega) w3 g (.slice (some ⟨tb, tof, none⟩) n0 c0) l (k' + 1) d (n + 1) bp bd bt h3 hb3 hd (by omega) (by omega) hr2; rw [show ((n + 1 : Nat) : Int) = (n : Int) + 1 by omega] at hTT; generalize parX j (.term (n + 1)) (l.drop (k' + 1)) d = r2 at *; obtain ⟨x2, n2, e2⟩ := r2; have HRe := Lib.hid hRe; clear hRe; generalize rkN (l.drop k') = rk at *; go_wp2_with fail; refine hrk.mono ?_; rintro _ _ ⟨rfl, nd, rfl⟩; have hgl := h5.box.lt; have HPO := Lib.hid h5.box.pos; have hbox := h5.box
     have hll : ((n0 : Nat) : Int) = (l.length : Int) := by
      obtain ⟨a9, c9, he9, -⟩ := h5.toks.len; cases he9; rfl
     have hnp := hB5.np; have hnd := hB5.nd; have hnt := hB5.nt; have hqg := hR5.qg; have hq0 := hR5.res.lt; have hboxc0 := hbox.cell 0 _ rfl; have hboxf0 := hbox.frozen 0; have hboxc1 := hbox.cell 1 _ rfl; have hboxf1 := hbox.frozen 1; have hboxc2 := hbox.cell 2 _ rfl; have hboxf2 := hbox.frozen 2; have HX := Lib.hid hX; clear hX; go_wp2_with fail; go_quiet (fail)
     go_wp2_with fail; have hs6 : Save g wr ((wr.drewN (nd + nq)).setCell ⟨g, 1, none⟩ (.int .i64 ((k' : Int) + 1))) := ((Save.refl g wr).drewN _).set 1 _; have hc6 : PrC ((wr.drewN (nd + nq)).setCell ⟨g, 1, none⟩ (.int .i64 ((k' : Int) + 1))) g (.slice (some ⟨tb, tof, none⟩) n0 c0) ((k' + 1 : Nat)) 0 := (h5.box.drewN (nd + nq)).setI 1 (.int .i64 ((k' : Int) + 1)); generalize (wr.drewN (nd + nq)).setCell ⟨g, 1, none⟩ (.int .i64 ((k' : Int) + 1)) = w6 at hs6 hc6 ⊢; refine (hTT w6 (h5.go hs6 hc6 hk1) (hB5.save hs6)).mono ?_; rintro _ w7 ⟨hs7, hc7, o2, t2, a2, m2, c2, rfl, hX2⟩; simp only at hc7 hX2; have hs57 := hs6.trans hs7; have hR7 := hR5.step hs57; have hB7 := hB5.save hs57; have hq7 := hs57.cells hq5 (by omega); have hz6 := hs6.size; have hz7 := hs7.size
     have hP7 : e2 = 0 -> Prs w7 g (.slice (some ⟨tb, tof, none⟩) n0 c0) l (k' + 1 + n2) := fun he => by
      subst he; exact h5.go hs57 hc7 (by omega)
     have hX7 : ExpIn (fun b => w.heap.size <= b /\ b ≠ w.heap.size /\ b ≠ w4.heap.size) w7 x (expV o5 t5 (.slice a5 nn5 c5)) :=
      ExpIn.move hs57.size (fun b hb hlt => hs57.2 b hlt (by omega)) (fun b hb _ => hb) x _ HX.out
     have H7 := Lib.hid (And.intro hR7 (And.intro hB7 (And.intro hc7 (And.intro hP7 (And.intro hX7 hX2))))); clear hR5 hB5 hs57 hs6 hs7 hc6 hc7 hP7 hX7 hX2 HX hbox hboxc0 hboxc1 hboxc2 hboxf0 hboxf1 hboxf2 hq5 hTT hrk c0' c1' c2' hbp hbd hbt hR7 hB7 h5; have hz2 : w4.heap.size < w7.heap.size := by omega
     have hq7c0 := hq7.cell 0 _ rfl; have hq7f0 := hq7.frozen 0; have hq7c1 := hq7.cell 1 _ rfl; have hq7f1 := hq7.frozen 1; have hq7c2 := hq7.cell 2 _ rfl; have hq7f2 := hq7.frozen 2; go_wp2_with fail; obtain ⟨hR7, hB7, hc7, hP7, hX7, hX2⟩ := H7.out; obtain ⟨h, hB⟩ := H0.out; have hSv := (hR7.save.setAllNew (q := w4.heap.size) (by omega) [.string op, .string ⟨#[]⟩, .slice (some ⟨w7.heap.size + 1, 0, none⟩) 2 2]); have hc8 : PrC (setAll w7 w4.heap.size 0 [.string op, .string ⟨#[]⟩, .slice (some ⟨w7.heap.size + 1, 0, none⟩) 2 2]) g _ _ _ := hc7.setAllOther (by omega); have hq8 : Cells (setAll w7 w4.heap.size 0 [.string op, .string ⟨#[]⟩, .slice (some ⟨w7.heap.size + 1, 0, none⟩) 2 2]) w4.heap.size _ _ := hq7.put [.string op, .string ⟨#[]⟩, .slice (some ⟨w7.heap.size + 1, 0, none⟩) 2 2] 0; have hr8 : Cells (setAll w7 w4.heap.size 0 [.string op, .string ⟨#[]⟩, .slice (some ⟨w7.heap.size + 1, 0, none⟩) 2 2]) w.heap.size _ _ := hR7.res.setAllOther (by omega); have hsz8 := setAll_size w4.heap.size [.string op, .string ⟨#[]⟩, .slice (some ⟨w7.heap.size + 1, 0, none⟩) 2 2] 0 w7; have hot8 := fun b (hb : b ≠ w4.heap.size) => setAll_other w4.heap.size [.string op, .string ⟨#[]⟩, .slice (some ⟨w7.heap.size + 1, 0, none⟩) 2 2] 0 w7 b hb
     show TL w w.heap.size w4.heap.size g bp bd bt _ l k d n m R (((setAll w7 w4.heap.size 0 [.string op, .string ⟨#[]⟩, .slice (some ⟨w7.heap.size + 1, 0, none⟩) 2 2]).alloc (.cells #[.string o2, .string t2, .slice a2 m2 c2] 52)).alloc (.cells #[.string o5, .string t5, .slice a5 nn5 c5, .string o2, .string t2, .slice a2 m2 c2] 52)) /\
      l.length + 1 - posOf (((setAll w7 w4.heap.size 0 [.string op, .string ⟨#[]⟩, .slice (some ⟨w7.heap.size + 1, 0, none⟩) 2 2]).alloc (.cells #[.string o2, .string t2, .slice a2 m2 c2] 52)).alloc (.cells #[.string o5, .string t5, .slice a5 nn5 c5, .string o2, .string t2, .slice a2 m2 c2] 52)) g < l.length + 1 - posOf wr g
     generalize setAll w7 w4.heap.size 0 [.string op, .string ⟨#[]⟩, .slice (some ⟨w7.heap.size + 1, 0, none⟩) 2 2] = w8 at hSv hc8 hq8 hr8 hsz8 hot8 ⊢; have hSv9 := (hSv.alloc (.cells #[.string o2, .string t2, .slice a2 m2 c2] 52)).alloc (.cells #[.string o5, .string t5, .slice a5 nn5 c5, .string o2, .string t2, .slice a2 m2 c2] 52); have hc9 := (hc8.alloc (.cells #[.string o2, .string t2, .slice a2 m2 c2] 52)).alloc (.cells #[.string o5, .string t5, .slice a5 nn5 c5, .string o2, .string t2, .slice a2 m2 c2] 52); have hq9 := (hq8.alloc (.cells #[.string o2, .string t2, .slice a2 m2 c2] 52)).alloc (.cells #[.string o5, .string t5, .slice a5 nn5 c5, .string o2, .string t2, .slice a2 m2 c2] 52); have hr9 := (hr8.alloc (.cells #[.string o2, .string t2, .slice a2 m2 c2] 52)).alloc (.cells #[.string o5, .string t5, .slice a5 nn5 c5, .string o2, .string t2, .slice a2 m2 c2] 52); have hk9 := Cells.new (w8.alloc (.cells #[.string o2, .string t2, .slice a2 m2 c2] 52)) #[.string o5, .string t5, .slice a5 nn5 c5, .string o2, .string t2, .slice a2 m2 c2] 52; rw [World.size_alloc, hsz8] at hk9
     have hot9 : ∀ b, b ≠ w4.heap.size -> b < w7.heap.size -> ((w8.alloc (.cells #[.string o2, .string t2, .slice a2 m2 c2] 52)).alloc (.cells #[.string o5, .string t5, .slice a5 nn5 c5, .string o2, .string t2, .slice a2 m2 c2] 52)).heap[b]? = w7.heap[b]? := fun b hb hlt => by
      rw [Below.heap_alloc _ _ _ (by rw [World.size_alloc]; omega), Below.heap_alloc _ _ _ (by omega), hot8 b hb]
     have hs9 : ((w8.alloc (.cells #[.string o2, .string t2, .slice a2 m2 c2] 52)).alloc (.cells #[.string o5, .string t5, .slice a5 nn5 c5, .string o2, .string t2, .slice a2 m2 c2] 52)).heap.size = w7.heap.size + 2 := by
      rw [World.size_alloc, World.size_alloc, hsz8]
     generalize (w8.alloc (.cells #[.string o2, .string t2, .slice a2 m2 c2] 52)).alloc (.cells #[.string o5, .string t5, .slice a5 nn5 c5, .string o2, .string t2, .slice a2 m2 c2] 52) = w9 at hSv9 hc9 hq9 hr9 hk9 hot9 hs9 ⊢; have hHRe := HRe.out; constructor
     ·refine ⟨⟨hSv9, hr9, hqg, Nat.le_refl _⟩, hB.save hSv9, op, ⟨#[]⟩, _, _, _, hq9, ?_⟩
      by_cases he : e2 = 0
      ·subst he
       left
       refine ⟨j, .mk op oNo [x, x2], k' + 1 + n2, by omega, h.go hSv9 hc9 (by omega), by omega, ?_, ?_⟩
       ·rw [hHRe, andX_ok (by rfl)]
        simp only [upX_upX, upX, List.drop_drop]; rw [show k' + (1 + n2) = k' + 1 + n2 by omega]; exact Prod.ext rfl (Prod.ext (by simp only; omega) rfl)
       ·refine node_at (P := fun b => w.heap.size <= b /\ b ≠ w.heap.size /\ b ≠ w4.heap.size) [(x, expV o5 t5 (.slice a5 nn5 c5)), (x2, expV o2 t2 (.slice a2 m2 c2))] hk9 ⟨by omega, by omega, by omega⟩ (fun s hs => ?_) (by unfold maxLen; simp)
        simp at hs
        rcases hs with rfl | rfl
        ·exact ExpIn.move (by omega) (fun b hb hlt => hot9 b hb.2.2 hlt) (fun b hb _ => hb) x _ hX7
        ·exact ExpIn.move (by omega) (fun b hb hlt => hot9 b (by omega) hlt) (fun b hb _ => ⟨by omega, by omega, by omega⟩) x2 _ (hX2 rfl)
      ·right
       refine ⟨k' + 1 + n2, e2, hc9, he, by omega, ?_⟩; rw [hHRe, andX_bad (by exact he)]; simp only [upX]; rw [show k' - k + (1 + n2) = k' + 1 + n2 - k by omega]
     ·rw [PrC.pos hc9, HPO.out]
      omega
   ·have hrk := rank_no wr g _ _ e hc5 he ⟨_, _, _, rfl⟩
    have hn0 : ((0 : Int) == (n : Int)) = false := by rw [beq_eq_false_iff_ne]; omega
    go_wp2_with fail; refine hrk.mono ?_; rintro _ _ ⟨rfl, nd, rfl⟩; have hR9 := hR5.step ((Save.refl g wr).drewN nd); have hc9 := hc5.drewN nd; have hq6 := hq5.drewN nd; clear hR5 hB5 hc5 hbp hbd hbt hq5; have hrl := hR9.res.lt; have HR := Lib.hid (And.intro hR9 hc9); have hres := hR9.res; clear hR9 hc9; have hresc0 := hres.cell 0 _ rfl; have hresf0 := hres.frozen 0; have hresc1 := hres.cell 1 _ rfl; have hresf1 := hres.frozen 1; have hresc2 := hres.cell 2 _ rfl; have hresf2 := hres.frozen 2; clear hres; have hq6c0 := hq6.cell 0 _ rfl; have hq6f0 := hq6.frozen 0; have hq6c1 := hq6.cell 1 _ rfl; have hq6f1 := hq6.frozen 1; have hq6c2 := hq6.cell 2 _ rfl; have hq6f2 := hq6.frozen 2; go_wp2; obtain ⟨hR9, hc9⟩ := HR.out; have hq := ((hR9.res.setI 0 (.string o5)).setI 1 (.string t5)).setI 2 (.slice a5 nn5 c5); have hx := hq.cell 0 _ rfl; have hy := hq.cell 1 _ rfl; have hz := hq.cell 2 _ rfl; refine bodyPost_ret (v := .agg #[.string o5, .string t5, .slice a5 nn5 c5]) (by simp [results, Tryz.results216, go_sem, hx, hy, hz]) rfl ?_; have hS9 := hR9.fin [.string o5, .string t5, .slice a5 nn5 c5]; have hP9 := hR9.prc hc9 [.string o5, .string t5, .slice a5 nn5 c5]; show XP g (.slice a0 n0 c0) k _ w _ (setAll (wr.drewN nd) w.heap.size 0 [.string o5, .string t5, .slice a5 nn5 c5]); rw [hRe]; have hkx : k + (k' - k) = k' := by omega
    exact ⟨hS9, by show PrC _ g _ ((k + (k' - k) : Nat)) e; rw [hkx]; exact hP9, _, _, _, _, _, rfl, fun h => absurd h he⟩
structure Ch (w0 : World) (q q6 g bp bd bt d : Nat) (cs : Array Value) (w : World) : Prop where
 rs : Rs w0 q g w
 tb : TBox w g bp bd bt d
 first : Cells w q6 cs 52
 q6g : q6 ≠ g
 q60 : w0.heap.size <= q6
 q6q : q6 ≠ q
theorem Ch.step {w0 w w' : World} {q q6 g bp bd bt d : Nat} {cs : Array Value} (h : Ch w0 q q6 g bp bd bt d cs w) (hs : Save g w w') : Ch w0 q q6 g bp bd bt d cs w' :=
 ⟨h.rs.step hs, h.tb.save hs, hs.cells h.first h.q6g, h.q6g, h.q60, h.q6q⟩
theorem choice_step (m : Nat) (hT : TermC m) (hC : ChoiceC m) : ChoiceC (m + 1) := by
 intro w g lv l k d h hd hne; obtain ⟨a0, n0, c0, rfl⟩ := h.sl; have hkl := h.le; have hsm := h.small; have hgw := h.box.lt; obtain ⟨R, hRR⟩ : ∃ R, R = parX (m + 1) .choice (l.drop k) d := ⟨_, rfl⟩; rw [<- hRR] at hne ⊢; rw [parX] at hRR; have hr1 : (parX m (.term 1) (l.drop k) d).2.2 ≠ -1 := by rw [hRR] at hne; exact andX_ne hne
 have hle1 : (parX m (.term 1) (l.drop k) d).2.1 <= (l.drop k).length := (parX_le m (.term 1) (l.drop k) d (by simp only [Nt.okX]; omega) hr1).1; rw [List.length_drop] at hle1; have hTT := fun w3 h3 bp bd bt hb3 => hT w3 g (.slice a0 n0 c0) l k d 1 bp bd bt h3 hb3 hd (by omega) (by omega) hr1; rw [show ((1 : Nat) : Int) = 1 from rfl] at hTT; generalize parX m (.term 1) (l.drop k) d = r1 at *; obtain ⟨x1, n1, e1⟩ := r1; simp only at hle1 hr1; have HRR := Lib.hid hRR; have HNE := Lib.hid hne; clear hRR hne hr1; go_enter Tryz.func192, Tryz.ntmps192; go_wp2_with fail
 have hbA : Below w.heap.size w ((((w.alloc (.cells #[.pointer (some ⟨g, 0, none⟩)] 218)).alloc (.cells #[.int .i64 (d : Nat)] 3)).alloc (.cells zeroC 52)).alloc (.cells #[.func (.func 216) #[] #[.pointer (some ⟨w.heap.size, 0, none⟩), .pointer (some ⟨w.heap.size + 1, 0, none⟩), .pointer (some ⟨w.heap.size + 1 + 1 + 1, 0, none⟩)]] 221)) :=
  ((((Below.refl _ w).alloc (Nat.le_refl _) _).alloc (by simp) _).alloc (by simp only [World.size_alloc]; omega) _).alloc (by simp only [World.size_alloc]; omega) _
 have hpA := (((Cells.new w #[.pointer (some ⟨g, 0, none⟩)] 218).alloc (.cells #[.int .i64 (d : Nat)] 3)).alloc (.cells zeroC 52)).alloc (.cells #[.func (.func 216) #[] #[.pointer (some ⟨w.heap.size, 0, none⟩), .pointer (some ⟨w.heap.size + 1, 0, none⟩), .pointer (some ⟨w.heap.size + 1 + 1 + 1, 0, none⟩)]] 221); have hdA := ((Cells.new (w.alloc (.cells #[.pointer (some ⟨g, 0, none⟩)] 218)) #[.int .i64 (d : Nat)] 3).alloc (.cells zeroC 52)).alloc (.cells #[.func (.func 216) #[] #[.pointer (some ⟨w.heap.size, 0, none⟩), .pointer (some ⟨w.heap.size + 1, 0, none⟩), .pointer (some ⟨w.heap.size + 1 + 1 + 1, 0, none⟩)]] 221); have hqA := (Cells.new ((w.alloc (.cells #[.pointer (some ⟨g, 0, none⟩)] 218)).alloc (.cells #[.int .i64 (d : Nat)] 3)) zeroC 52).alloc (.cells #[.func (.func 216) #[] #[.pointer (some ⟨w.heap.size, 0, none⟩), .pointer (some ⟨w.heap.size + 1, 0, none⟩), .pointer (some ⟨w.heap.size + 1 + 1 + 1, 0, none⟩)]] 221); have htA := Cells.new (((w.alloc (.cells #[.pointer (some ⟨g, 0, none⟩)] 218)).alloc (.cells #[.int .i64 (d : Nat)] 3)).alloc (.cells zeroC 52)) #[.func (.func 216) #[] #[.pointer (some ⟨w.heap.size, 0, none⟩), .pointer (some ⟨w.heap.size + 1, 0, none⟩), .pointer (some ⟨w.heap.size + 1 + 1 + 1, 0, none⟩)]] 221; simp only [World.size_alloc] at hdA hqA htA; have hsA : ((((w.alloc (.cells #[.pointer (some ⟨g, 0, none⟩)] 218)).alloc (.cells #[.int .i64 (d : Nat)] 3)).alloc (.cells zeroC 52)).alloc (.cells #[.func (.func 216) #[] #[.pointer (some ⟨w.heap.size, 0, none⟩), .pointer (some ⟨w.heap.size + 1, 0, none⟩), .pointer (some ⟨w.heap.size + 1 + 1 + 1, 0, none⟩)]] 221)).heap.size = w.heap.size + 4 := by simp only [World.size_alloc]
 generalize ((((w.alloc (.cells #[.pointer (some ⟨g, 0, none⟩)] 218)).alloc (.cells #[.int .i64 (d : Nat)] 3)).alloc (.cells zeroC 52)).alloc (.cells #[.func (.func 216) #[] #[.pointer (some ⟨w.heap.size, 0, none⟩), .pointer (some ⟨w.heap.size + 1, 0, none⟩), .pointer (some ⟨w.heap.size + 1 + 1 + 1, 0, none⟩)]] 221)) = wA at hbA hpA hdA hqA htA hsA ⊢; have hPA := h.step hbA; have hTA : TBox wA g w.heap.size (w.heap.size + 1) (w.heap.size + 1 + 1 + 1) d := ⟨hpA, hdA, htA, by omega, by omega, by omega⟩; have hRA : Rs w (w.heap.size + 1 + 1) g wA := ⟨Save.of hbA, hqA, by omega, by omega⟩; clear hbA hpA hdA hqA htA; refine (hTT wA hPA _ _ _ hTA).mono ?_; rintro _ w2 ⟨hs2, hc2, o1, t1, a1, m1, c1, rfl, hX1⟩; simp only at hc2 hX1; have hz2 := hs2.size; have hx2 : Save g w2 (w2.alloc (.cells #[.string o1, .string t1, .slice a1 m1 c1] 52)) := (Save.refl g w2).alloc _
 have hC3 : Ch w (w.heap.size + 1 + 1) w2.heap.size g w.heap.size (w.heap.size + 1) (w.heap.size + 1 + 1 + 1) d #[.string o1, .string t1, .slice a1 m1 c1] (w2.alloc (.cells #[.string o1, .string t1, .slice a1 m1 c1] 52)) :=
  ⟨(hRA.step hs2).step hx2, (hTA.save hs2).save hx2, Cells.new _ _ _, by omega, by omega, by omega⟩
 have hc3 := hc2.alloc (.cells #[.string o1, .string t1, .slice a1 m1 c1] 52); have hs3 := hs2.trans hx2
 have hX3 : e1 = 0 -> ExpIn (fun b => w.heap.size <= b /\ b ≠ w.heap.size + 1 + 1 /\ b ≠ w2.heap.size) (w2.alloc (.cells #[.string o1, .string t1, .slice a1 m1 c1] 52)) x1 (expV o1 t1 (.slice a1 m1 c1)) := fun he =>
  ExpIn.move hx2.size (fun b hb hlt => hx2.2 b hlt (by omega)) (fun b hb hlt => ⟨by omega, by omega, by omega⟩) x1 _ (hX1 he)
 have hz3 : w2.heap.size < (w2.alloc (.cells #[.string o1, .string t1, .slice a1 m1 c1] 52)).heap.size := by simp
 have hT2 := hTA.save hs2; have hbp := hT2.p.cell 0 _ rfl; have hpl := hT2.p.lt; have H3 := Lib.hid hz3; have HC3 := Lib.hid (And.intro hC3 (And.intro hc3 (And.intro hs3 (And.intro hX3 hPA)))); clear hx2 hc2 hs2 hX1 hRA hTA hTT hT2 hC3 hc3 hs3 hX3 hPA hz3; go_wp2_with fail; obtain ⟨hC3, hc3, hs3, hX3, hPA⟩ := HC3.out; have hz3 := H3.out; clear HC3 H3 hbp hpl; generalize w2.alloc (.cells #[.string o1, .string t1, .slice a1 m1 c1] 52) = w3 at hC3 hc3 hs3 hX3 hz3 ⊢
 by_cases he1 : e1 = 0
 focus
  subst he1; have hP3 := hPA.go hs3 hc3 (by omega); clear hPA hs3; have hX3 := hX3 rfl; have hR2 := HRR.out; rw [andX_ok (by rfl)] at hR2; simp only [List.drop_drop] at hR2; clear HRR
  by_cases s1 : isS (l.drop (k + n1)) sQ = false
  focus
   rw [if_pos s1] at hR2; have hI := is_ok _ g _ l (k + n1) sQ hP3; rw [s1] at hI; have HX := Lib.hid hX3; have HR2 := Lib.hid hR2; clear hX3 hR2 hP3; refine hI.mono ?_; rintro _ w4 ⟨rfl, hb4⟩; have hC9 := hC3.step (Save.of hb4); have hc9 := hc3.below hb4 hc3.lt; have HX := Lib.hid (ExpIn.below hb4 x1 _ HX.out); clear hC3 hc3 hb4 hI
  rotate_left
  focus
   have s1t : isS (l.drop (k + n1)) sQ = true := by simpa using s1
   rw [if_neg s1] at hR2; have hk1 : k + n1 + 1 <= l.length := by have := isS_some s1t; rw [List.length_drop] at this; omega
   have hI := is_ok _ g _ l (k + n1) sQ hP3; rw [s1t] at hI; have HP3 := Lib.hid hP3; clear hP3; have HX := Lib.hid hX3; clear hX3
   by_cases hd6 : 64 <= d
   focus
    rw [if_pos hd6] at hR2; have HR2 := Lib.hid hR2; clear hR2; refine hI.mono ?_; rintro _ w4 ⟨rfl, hb4⟩; have hC9 := hC3.step (Save.of hb4); have hc9 := hc3.below hb4 hc3.lt; clear hC3 hc3 hb4 hI HX HP3; have hN := into_no w4 g _ (k + n1) d hc9 hd6; have hbp := hC9.tb.p.cell 0 _ rfl; have hbd := hC9.tb.d.cell 0 _ rfl; have hpl := hC9.tb.p.lt; have hdl := hC9.tb.d.lt; have hres := hC9.rs.res; have hrl := hres.lt; have hfi := hC9.first
    have hfl := hfi.lt; have hgl := hc9.lt; have HR := Lib.hid (And.intro hC9 hc9); have hresc0 := hres.cell 0 _ rfl; have hresf0 := hres.frozen 0; have hresc1 := hres.cell 1 _ rfl; have hresf1 := hres.frozen 1; have hresc2 := hres.cell 2 _ rfl; have hresf2 := hres.frozen 2; have hfic0 := hfi.cell 0 _ rfl; have hfif0 := hfi.frozen 0; have hfic1 := hfi.cell 1 _ rfl; have hfif1 := hfi.frozen 1; have hfic2 := hfi.cell 2 _ rfl; have hfif2 := hfi.frozen 2; have hc9c0 := hc9.cell 0 _ rfl; have hc9f0 := hc9.frozen 0; have hc9c1 := hc9.cell 1 _ rfl; have hc9f1 := hc9.frozen 1; have hc9c2 := hc9.cell 2 _ rfl; have hc9f2 := hc9.frozen 2; clear hC9 hc9 hres hfi; go_wp2_with fail; refine hN.mono ?_; rintro _ w5 ⟨rfl, hc5, hs5⟩; obtain ⟨hC9, hc9⟩ := HR.out; clear HR hbp hbd hpl hdl hrl hfl hgl hresc0 hresc1 hresc2 hresf0 hresf1 hresf2 hfic0 hfic1 hfic2 hfif0 hfif1 hfif2 hc9c0 hc9c1 hc9c2 hc9f0 hc9f1 hc9f2; clear hc9
    replace hC9 := hC9.step hs5
    have hc9 := hc5; clear hs5 hc5 hN
   rotate_left
   focus
    rw [if_neg hd6] at hR2; have hne := HNE.out; rw [hR2] at hne; have hr2 : (parX m .choice (l.drop (k + (n1 + 1))) (d + 1)).2.2 ≠ -1 := andX_ne (g := upX (n1 + 1) (parX m .choice (l.drop (k + (n1 + 1))) (d + 1))) hne; have hle2 := (parX_le m .choice (l.drop (k + (n1 + 1))) (d + 1) (by simp only [Nt.okX]) hr2).1; rw [List.length_drop] at hle2; have hCC := fun w3 h3 => hC w3 g (.slice a0 n0 c0) l (k + (n1 + 1)) (d + 1) h3 (by omega) hr2; rw [show ((d + 1 : Nat) : Int) = (d : Int) + 1 by omega] at hCC; clear hne; generalize parX m .choice (l.drop (k + (n1 + 1))) (d + 1) = r2 at *; obtain ⟨x2, n2, e2⟩ := r2; simp only at hle2 hr2; have HR2 := Lib.hid hR2; clear hR2 hr2; refine hI.mono ?_; rintro _ w4 ⟨rfl, hb4⟩; have hC9 := hC3.step (Save.of hb4); have hc9 := hc3.below hb4 hc3.lt; have HP4 := Lib.hid (HP3.out.step hb4); have HX4 := Lib.hid (ExpIn.below hb4 x1 _ HX.out); clear hC3 hc3 hb4 hI HX HP3; have hN := into_yes w4 g _ (k + n1) d hc9 (by omega) (by omega); have hbp := hC9.tb.p.cell 0 _ rfl; have hbd := hC9.tb.d.cell 0 _ rfl; have hpl := hC9.tb.p.lt; have hdl := hC9.tb.d.lt; have hres := hC9.rs.res; have hrl := hres.lt; have hfi := hC9.first
    have hfl := hfi.lt; have hgl := hc9.lt; have HR := Lib.hid (And.intro hC9 hc9); have hresc0 := hres.cell 0 _ rfl; have hresf0 := hres.frozen 0; have hresc1 := hres.cell 1 _ rfl; have hresf1 := hres.frozen 1; have hresc2 := hres.cell 2 _ rfl; have hresf2 := hres.frozen 2; have hfic0 := hfi.cell 0 _ rfl; have hfif0 := hfi.frozen 0; have hfic1 := hfi.cell 1 _ rfl; have hfif1 := hfi.frozen 1; have hfic2 := hfi.cell 2 _ rfl; have hfif2 := hfi.frozen 2; have hc9c0 := hc9.cell 0 _ rfl; have hc9f0 := hc9.frozen 0; have hc9c1 := hc9.cell 1 _ rfl; have hc9f1 := hc9.frozen 1; have hc9c2 := hc9.cell 2 _ rfl; have hc9f2 := hc9.frozen 2; clear hC9 hc9 hres hfi; go_wp2_with fail; refine hN.mono ?_; rintro _ w5 ⟨rfl, hc5, hs5⟩; obtain ⟨hC9, hc9⟩ := HR.out; clear HR hbp hbd hpl hdl hrl hfl hgl hresc0 hresc1 hresc2 hresf0 hresf1 hresf2 hfic0 hfic1 hfic2 hfif0 hfif1 hfif2 hc9c0 hc9c1 hc9c2 hc9f0 hc9f1 hc9f2; clear hc9; have hP5 : Prs w5 g (.slice a0 n0 c0) l (k + (n1 + 1)) := HP4.out.go hs5 hc5 hk1
    replace hC9 := hC9.step hs5
    have hc9 := hc5; have HX5 := Lib.hid (ExpIn.move hs5.size (fun b hb hlt => hs5.2 b hlt (by omega)) (fun b hb _ => hb) x1 _ HX4.out); clear hs5 hc5 hN HP4 HX4; have hCC := hCC w5 hP5; have hbp := hC9.tb.p.cell 0 _ rfl; have hbd := hC9.tb.d.cell 0 _ rfl; have hpl := hC9.tb.p.lt; have hdl := hC9.tb.d.lt; have hres := hC9.rs.res; have hrl := hres.lt; have hfi := hC9.first
    have hfl := hfi.lt; have hgl := hc9.lt; have HR := Lib.hid (And.intro hC9 hc9); have hresc0 := hres.cell 0 _ rfl; have hresf0 := hres.frozen 0; have hresc1 := hres.cell 1 _ rfl; have hresf1 := hres.frozen 1; have hresc2 := hres.cell 2 _ rfl; have hresf2 := hres.frozen 2; have hfic0 := hfi.cell 0 _ rfl; have hfif0 := hfi.frozen 0; have hfic1 := hfi.cell 1 _ rfl; have hfif1 := hfi.frozen 1; have hfic2 := hfi.cell 2 _ rfl; have hfif2 := hfi.frozen 2; have hc9c0 := hc9.cell 0 _ rfl; have hc9f0 := hc9.frozen 0; have hc9c1 := hc9.cell 1 _ rfl; have hc9f1 := hc9.frozen 1; have hc9c2 := hc9.cell 2 _ rfl; have hc9f2 := hc9.frozen 2; clear hC9 hc9 hres hfi; go_wp2_with fail; refine hCC.mono ?_; rintro _ w6 ⟨hs6, hc6, o2, t2, a2, m2, c2, rfl, hX6⟩; simp only at hc6 hX6; obtain ⟨hC9, hc9⟩ := HR.out; clear HR hbp hbd hpl hdl hrl hfl hgl hresc0 hresc1 hresc2 hresf0 hresf1 hresf2 hfic0 hfic1 hfic2 hfif0 hfif1 hfif2 hc9c0 hc9c1 hc9c2 hc9f0 hc9f1 hc9f2; have hlt5 := hC9.first.lt
    have hlr5 := hC9.rs.res.lt; have hC10 := hC9.step hs6; have hz6 := hs6.size; have hc6 : PrC w6 g (.slice a0 n0 c0) ((k + (n1 + 1 + n2) : Nat)) e2 := by rw [Nat.add_assoc] at hc6; exact hc6
    have hP6 : e2 = 0 -> Prs w6 g (.slice a0 n0 c0) l (k + (n1 + 1 + n2)) := fun he => by
     subst he; exact hP5.go hs6 hc6 (by omega)
    have hA7 : ExpIn (fun b => w.heap.size <= b /\ b ≠ w.heap.size + 1 + 1 /\ b ≠ w2.heap.size) w6 x1 (expV o1 t1 (.slice a1 m1 c1)) :=
     ExpIn.move hs6.size (fun b hb hlt => hs6.2 b hlt (by omega)) (fun b hb _ => hb) x1 _ HX5.out
    have hB7 : e2 = 0 -> ExpIn (fun b => w.heap.size <= b /\ b ≠ w.heap.size + 1 + 1 /\ b ≠ w2.heap.size) w6 x2 (expV o2 t2 (.slice a2 m2 c2)) := fun he =>
     ExpIn.move (Nat.le_refl _) (fun b hb _ => rfl) (fun b hb _ => ⟨by omega, by omega, by omega⟩) x2 _ (hX6 he)
    clear hC9 hc9 hs6 hX6 HX5 hP5 hCC; have hb7 : Below w6.heap.size w6 (w6.alloc (.cells #[.string o2, .string t2, .slice a2 m2 c2] 52)) := (Below.refl _ _).alloc (Nat.le_refl _) _; have hk7 := Cells.new w6 #[.string o2, .string t2, .slice a2 m2 c2] 52; have hC9 := hC10.step (Save.of hb7); have hc9 := hc6.below hb7 hc6.lt; have hP7 : e2 = 0 -> Prs (w6.alloc (.cells #[.string o2, .string t2, .slice a2 m2 c2] 52)) g (.slice a0 n0 c0) l (k + (n1 + 1 + n2)) := fun he => (hP6 he).step hb7; have HX7 := Lib.hid (And.intro (ExpIn.below hb7 x1 _ hA7) (fun he => ExpIn.below hb7 x2 _ (hB7 he))); have hz7 : (w6.alloc (.cells #[.string o2, .string t2, .slice a2 m2 c2] 52)).heap.size = w6.heap.size + 1 := by simp
    have H7 := Lib.hid (And.intro hC9 (And.intro hc9 (And.intro hP7 hk7))); clear hb7 hC9 hc9 hP7 hk7 hA7 hB7 hP6; have hbp := hC10.tb.p.cell 0 _ rfl; have hpl := hC10.tb.p.lt; clear hC10 hc6; have HZ7 := Lib.hid hz7; clear hz7; go_wp2_with fail; clear hbp hpl; obtain ⟨hC9, hc9, hP7, hk7⟩ := H7.out; have hz7 := HZ7.out; clear H7 HZ7; generalize w6.alloc (.cells #[.string o2, .string t2, .slice a2 m2 c2] 52) = w7 at *; clear hc6 hX3 hCC; have hq7 : w6.heap.size ≠ g /\ w6.heap.size ≠ w.heap.size + 1 + 1 /\ w6.heap.size ≠ w2.heap.size /\ w.heap.size <= w6.heap.size := ⟨by omega, by omega, by omega, by omega⟩
    by_cases he2 : e2 = 0
    focus
     subst he2; have hP7 := hP7 rfl; obtain ⟨hA7, hB7⟩ := HX7.out; have hB7 := hB7 rfl
     have hR2 : R = (if isS (l.drop (k + (n1 + 1 + n2))) sCo = false then badX (l.drop (k + (n1 + 1 + n2))) (n1 + 1 + n2) else andX (upX (n1 + 1 + n2 + 1) (parX m .choice (l.drop (k + (n1 + 1 + n2 + 1))) (d + 1))) fun c k3 => (.mk sQ oNo [x1, x2, c], k3, 0)) := by
      rw [HR2.out, andX_ok (by rfl)]; rfl
     have hN := need_ok w7 g _ l (k + (n1 + 1 + n2)) sCo hP7
     by_cases s2 : isS (l.drop (k + (n1 + 1 + n2))) sCo = false
     focus
      rw [if_pos s2, badX_e] at hR2; rw [s2, if_neg (by simp), if_neg (by simp)] at hN; have hw : (wrE (l.drop (k + (n1 + 1 + n2))) != 0) = true := by simpa using wrE_ne _
      have hw2 : wrE (l.drop (k + (n1 + 1 + n2))) ≠ 0 := wrE_ne _; generalize wrE (l.drop (k + (n1 + 1 + n2))) = ee at *; have HR2 := Lib.hid hR2; have HW2 := Lib.hid hw2; clear hR2 hw2 hA7 hB7 HX7 hP7 hk7; refine hN.mono ?_; rintro _ w8 ⟨rfl, hc8, hs8⟩; clear hc9
      replace hC9 := hC9.step hs8
      have hc9 := hc8; clear hs8 hc8 hN
     rotate_left
     ·rw [if_neg s2] at hR2
      have s2t : isS (l.drop (k + (n1 + 1 + n2))) sCo = true := by simpa using s2
      rw [s2t, if_pos rfl, if_pos rfl] at hN; have hk2 : k + (n1 + 1 + n2) + 1 <= l.length := by have := isS_some s2t; rw [List.length_drop] at this; omega
      have hne := HNE.out; rw [hR2] at hne; have hr3 : (parX m .choice (l.drop (k + (n1 + 1 + n2 + 1))) (d + 1)).2.2 ≠ -1 := andX_ne (g := upX (n1 + 1 + n2 + 1) (parX m .choice (l.drop (k + (n1 + 1 + n2 + 1))) (d + 1))) hne; have hle3 := (parX_le m .choice (l.drop (k + (n1 + 1 + n2 + 1))) (d + 1) (by simp only [Nt.okX]) hr3).1; rw [List.length_drop] at hle3; have hCC := fun w3 h3 => hC w3 g (.slice a0 n0 c0) l (k + (n1 + 1 + n2 + 1)) (d + 1) h3 (by omega) hr3; rw [show ((d + 1 : Nat) : Int) = (d : Int) + 1 by omega] at hCC; clear hne; generalize parX m .choice (l.drop (k + (n1 + 1 + n2 + 1))) (d + 1) = r3 at *; obtain ⟨x3, n3, e3⟩ := r3; simp only at hle3 hr3; have HR2 := Lib.hid hR2; clear hR2 hr3 HX7; refine hN.mono ?_; rintro _ w8 ⟨rfl, hc8, hs8⟩; have hP8 : Prs w8 g (.slice a0 n0 c0) l (k + (n1 + 1 + n2 + 1)) := hP7.go hs8 hc8 hk2; have hC8 := hC9.step hs8; have hk8 := hs8.cells hk7 hq7.1; have HX8 := Lib.hid (And.intro (ExpIn.move hs8.size (fun b hb hlt => hs8.2 b hlt (by omega)) (fun b hb _ => hb) x1 _ hA7) (ExpIn.move hs8.size (fun b hb hlt => hs8.2 b hlt (by omega)) (fun b hb _ => hb) x2 _ hB7)); have hz8 := hs8.size; clear hc9 hC9 hk7 hA7 hB7 hs8 hP7 hN; have hC9 := hC8; have hc9 := hc8; clear hC8 hc8; have hCC := hCC w8 hP8; have hbp := hC9.tb.p.cell 0 _ rfl; have hbd := hC9.tb.d.cell 0 _ rfl; have hpl := hC9.tb.p.lt; have hdl := hC9.tb.d.lt; have hres := hC9.rs.res; have hrl := hres.lt; have hfi := hC9.first
      have hfl := hfi.lt; have hgl := hc9.lt; have HR := Lib.hid (And.intro hC9 hc9); have hresc0 := hres.cell 0 _ rfl; have hresf0 := hres.frozen 0; have hresc1 := hres.cell 1 _ rfl; have hresf1 := hres.frozen 1; have hresc2 := hres.cell 2 _ rfl; have hresf2 := hres.frozen 2; have hfic0 := hfi.cell 0 _ rfl; have hfif0 := hfi.frozen 0; have hfic1 := hfi.cell 1 _ rfl; have hfif1 := hfi.frozen 1; have hfic2 := hfi.cell 2 _ rfl; have hfif2 := hfi.frozen 2; have hc9c0 := hc9.cell 0 _ rfl; have hc9f0 := hc9.frozen 0; have hc9c1 := hc9.cell 1 _ rfl; have hc9f1 := hc9.frozen 1; have hc9c2 := hc9.cell 2 _ rfl; have hc9f2 := hc9.frozen 2; clear hC9 hc9 hres hfi; go_wp2_with fail; refine hCC.mono ?_; rintro _ w9 ⟨hs9, hc10, o3, t3, a3, m3, c3, rfl, hX9⟩; simp only at hc10 hX9; obtain ⟨hC9, hc9⟩ := HR.out; clear HR hbp hbd hpl hdl hrl hfl hgl hresc0 hresc1 hresc2 hresf0 hresf1 hresf2 hfic0 hfic1 hfic2 hfif0 hfif1 hfif2 hc9c0 hc9c1 hc9c2 hc9f0 hc9f1 hc9f2; have hlt8 := hC9.first.lt
      have hlr8 := hC9.rs.res.lt; have hC10 := hC9.step hs9; have hk9 := hs9.cells hk8 hq7.1; have hz9 := hs9.size; have hc10 : PrC w9 g (.slice a0 n0 c0) ((k + (n1 + 1 + n2 + 1 + n3) : Nat)) e3 := by rw [Nat.add_assoc] at hc10; exact hc10
      have hA9 := ExpIn.move hs9.size (fun b hb hlt => hs9.2 b hlt (by omega)) (fun b hb _ => hb) x1 _ HX8.out.1; have hB9 := ExpIn.move hs9.size (fun b hb hlt => hs9.2 b hlt (by omega)) (fun b hb _ => hb) x2 _ HX8.out.2; clear hC9 hc9 hs9 hP8 hCC HX8 hk8; have HX := Lib.hid (And.intro hA9 (And.intro hB9 hX9)); have hC9 := hC10; have hc9 := hc10; clear hC10 hc10 hA9 hB9 hX9; have hkl9 := hk9.lt; have hbp := hC9.tb.p.cell 0 _ rfl; have hbd := hC9.tb.d.cell 0 _ rfl; have hpl := hC9.tb.p.lt; have hdl := hC9.tb.d.lt; have hres := hC9.rs.res; have hrl := hres.lt; have hfi := hC9.first
      have hfl := hfi.lt; have hgl := hc9.lt; have HR := Lib.hid (And.intro hC9 hc9); have hresc0 := hres.cell 0 _ rfl; have hresf0 := hres.frozen 0; have hresc1 := hres.cell 1 _ rfl; have hresf1 := hres.frozen 1; have hresc2 := hres.cell 2 _ rfl; have hresf2 := hres.frozen 2; have hfic0 := hfi.cell 0 _ rfl; have hfif0 := hfi.frozen 0; have hfic1 := hfi.cell 1 _ rfl; have hfif1 := hfi.frozen 1; have hfic2 := hfi.cell 2 _ rfl; have hfif2 := hfi.frozen 2; have hc9c0 := hc9.cell 0 _ rfl; have hc9f0 := hc9.frozen 0; have hc9c1 := hc9.cell 1 _ rfl; have hc9f1 := hc9.frozen 1; have hc9c2 := hc9.cell 2 _ rfl; have hc9f2 := hc9.frozen 2; clear hC9 hc9 hres hfi; have hk9c0 := hk9.cell 0 _ rfl; have hk9f0 := hk9.frozen 0; have hk9c1 := hk9.cell 1 _ rfl; have hk9f1 := hk9.frozen 1; have hk9c2 := hk9.cell 2 _ rfl; have hk9f2 := hk9.frozen 2; clear hk9; go_wp2; obtain ⟨hC9, hc9⟩ := HR.out; have hR9 := hC9.rs; have hq := ((((hR9.res.setI 0 (.string sQ)).setI 1 (.string ⟨#[]⟩)).setI 2 (.slice (some ⟨w9.heap.size + 1, 0, none⟩) 3 3)).alloc (.cells #[.string o3, .string t3, .slice a3 m3 c3] 52)).alloc (.cells #[.string o1, .string t1, .slice a1 m1 c1, .string o2, .string t2, .slice a2 m2 c2, .string o3, .string t3, .slice a3 m3 c3] 52); have hx := hq.cell 0 _ rfl; have hy := hq.cell 1 _ rfl; have hz := hq.cell 2 _ rfl; refine bodyPost_ret (v := .agg #[.string sQ, .string ⟨#[]⟩, .slice (some ⟨w9.heap.size + 1, 0, none⟩) 3 3]) (by simp [results, Tryz.results192, go_sem, hx, hy, hz]) rfl ?_
      have hS9 := ((hR9.fin [.string sQ, .string ⟨#[]⟩, .slice (some ⟨w9.heap.size + 1, 0, none⟩) 3 3]).alloc (.cells #[.string o3, .string t3, .slice a3 m3 c3] 52)).alloc (.cells #[.string o1, .string t1, .slice a1 m1 c1, .string o2, .string t2, .slice a2 m2 c2, .string o3, .string t3, .slice a3 m3 c3] 52); have hP9 := ((hR9.prc hc9 [.string sQ, .string ⟨#[]⟩, .slice (some ⟨w9.heap.size + 1, 0, none⟩) 3 3]).alloc (.cells #[.string o3, .string t3, .slice a3 m3 c3] 52)).alloc (.cells #[.string o1, .string t1, .slice a1 m1 c1, .string o2, .string t2, .slice a2 m2 c2, .string o3, .string t3, .slice a3 m3 c3] 52); show XP g (.slice a0 n0 c0) k _ w _ (((setAll w9 (w.heap.size + 1 + 1) 0 [.string sQ, .string ⟨#[]⟩, .slice (some ⟨w9.heap.size + 1, 0, none⟩) 3 3]).alloc (.cells #[.string o3, .string t3, .slice a3 m3 c3] 52)).alloc (.cells #[.string o1, .string t1, .slice a1 m1 c1, .string o2, .string t2, .slice a2 m2 c2, .string o3, .string t3, .slice a3 m3 c3] 52)); have hsz8 := setAll_size (w.heap.size + 1 + 1) [.string sQ, .string ⟨#[]⟩, .slice (some ⟨w9.heap.size + 1, 0, none⟩) 3 3] 0 w9; have hot8 := fun b (hb : b ≠ w.heap.size + 1 + 1) => setAll_other (w.heap.size + 1 + 1) [.string sQ, .string ⟨#[]⟩, .slice (some ⟨w9.heap.size + 1, 0, none⟩) 3 3] 0 w9 b hb; generalize setAll w9 (w.heap.size + 1 + 1) 0 [.string sQ, .string ⟨#[]⟩, .slice (some ⟨w9.heap.size + 1, 0, none⟩) 3 3] = w10 at hS9 hP9 hsz8 hot8 ⊢; have hk9 := Cells.new (w10.alloc (.cells #[.string o3, .string t3, .slice a3 m3 c3] 52)) #[.string o1, .string t1, .slice a1 m1 c1, .string o2, .string t2, .slice a2 m2 c2, .string o3, .string t3, .slice a3 m3 c3] 52
      rw [World.size_alloc, hsz8] at hk9
      have hot9 : ∀ b, b ≠ w.heap.size + 1 + 1 -> b < w9.heap.size -> ((w10.alloc (.cells #[.string o3, .string t3, .slice a3 m3 c3] 52)).alloc (.cells #[.string o1, .string t1, .slice a1 m1 c1, .string o2, .string t2, .slice a2 m2 c2, .string o3, .string t3, .slice a3 m3 c3] 52)).heap[b]? = w9.heap[b]? := fun b hb hlt => by
       rw [Below.heap_alloc _ _ _ (by rw [World.size_alloc]; omega), Below.heap_alloc _ _ _ (by omega), hot8 b hb]
      have hs9 : ((w10.alloc (.cells #[.string o3, .string t3, .slice a3 m3 c3] 52)).alloc (.cells #[.string o1, .string t1, .slice a1 m1 c1, .string o2, .string t2, .slice a2 m2 c2, .string o3, .string t3, .slice a3 m3 c3] 52)).heap.size = w9.heap.size + 2 := by
       rw [World.size_alloc, World.size_alloc, hsz8]
      generalize (w10.alloc (.cells #[.string o3, .string t3, .slice a3 m3 c3] 52)).alloc (.cells #[.string o1, .string t1, .slice a1 m1 c1, .string o2, .string t2, .slice a2 m2 c2, .string o3, .string t3, .slice a3 m3 c3] 52) = w11 at hS9 hP9 hk9 hot9 hs9 ⊢; have hR2 := HR2.out; obtain ⟨hA9, hB9, hX9⟩ := HX.out
      by_cases he3 : e3 = 0
      ·subst he3
       rw [andX_ok (by rfl)] at hR2; simp only [upX] at hR2; rw [hR2]; refine ⟨hS9, hP9, _, _, _, _, _, rfl, fun _ => ?_⟩; refine node_at (P := fun b => w.heap.size <= b) [(x1, expV o1 t1 (.slice a1 m1 c1)), (x2, expV o2 t2 (.slice a2 m2 c2)), (x3, expV o3 t3 (.slice a3 m3 c3))] hk9 (by omega) (fun s hs => ?_) (by unfold maxLen; simp); simp at hs
       rcases hs with rfl | rfl | rfl
       ·exact ExpIn.move (by omega) (fun b hb hlt => hot9 b hb.2.1 hlt) (fun b hb _ => hb.1) x1 _ hA9
       ·exact ExpIn.move (by omega) (fun b hb hlt => hot9 b hb.2.1 hlt) (fun b hb _ => hb.1) x2 _ hB9
       ·exact ExpIn.move (by omega) (fun b hb hlt => hot9 b (by omega) hlt) (fun b hb _ => by omega) x3 _ (hX9 rfl)
      ·rw [andX_bad (by exact he3)] at hR2
       simp only [upX] at hR2; rw [hR2]; exact ⟨hS9, hP9, _, _, _, _, _, rfl, fun h => absurd h he3⟩
    rotate_left
    focus
     have hR2 := HR2.out; rw [andX_bad (by exact he2)] at hR2; simp only [upX] at hR2; have HR2 := Lib.hid hR2; have hN := need_no w7 g _ _ e2 sCo hc9 he2 ⟨_, _, _, rfl⟩; have hw : (e2 != 0) = true := by simpa using he2
     clear hR2 hP7 HX7 hk7; refine hN.mono ?_; rintro _ _ ⟨rfl, nd, rfl⟩; have hC8 := hC9.step ((Save.refl g _).drewN nd); have hc8 := Cells.drewN hc9 nd; clear hC9 hc9 hN; have hC9 := hC8; have hc9 := hc8; clear hC8 hc8
 rotate_left 4
 focus
  have hR2 := HRR.out; rw [andX_bad (by exact he1)] at hR2; have HR2 := Lib.hid hR2; have hI := is_no _ g _ _ e1 sQ hc3 he1 ⟨_, _, _, rfl⟩; clear hR2 hX3 hPA hs3 HRR; refine hI.mono ?_; rintro _ _ ⟨rfl, nd, rfl⟩; have hC9 := hC3.step ((Save.refl g _).drewN nd); have hc9 := hc3.drewN nd; clear hC3 hc3 hI
 all_goals
  have hbp := hC9.tb.p.cell 0 _ rfl; have hbd := hC9.tb.d.cell 0 _ rfl; have hpl := hC9.tb.p.lt; have hdl := hC9.tb.d.lt; have hres := hC9.rs.res; have hrl := hres.lt; have hfi := hC9.first
  have hfl := hfi.lt; have hgl := hc9.lt; have HR := Lib.hid (And.intro hC9 hc9); have hresc0 := hres.cell 0 _ rfl; have hresf0 := hres.frozen 0; have hresc1 := hres.cell 1 _ rfl; have hresf1 := hres.frozen 1; have hresc2 := hres.cell 2 _ rfl; have hresf2 := hres.frozen 2; have hfic0 := hfi.cell 0 _ rfl; have hfif0 := hfi.frozen 0; have hfic1 := hfi.cell 1 _ rfl; have hfif1 := hfi.frozen 1; have hfic2 := hfi.cell 2 _ rfl; have hfif2 := hfi.frozen 2; have hc9c0 := hc9.cell 0 _ rfl; have hc9f0 := hc9.frozen 0; have hc9c1 := hc9.cell 1 _ rfl; have hc9f1 := hc9.frozen 1; have hc9c2 := hc9.cell 2 _ rfl; have hc9f2 := hc9.frozen 2; clear hC9 hc9 hres hfi; go_wp2; obtain ⟨hC9, hc9⟩ := HR.out; have hR9 := hC9.rs; have hq := ((hR9.res.setI 0 (.string o1)).setI 1 (.string t1)).setI 2 (.slice a1 m1 c1); have hx := hq.cell 0 _ rfl; have hy := hq.cell 1 _ rfl; have hz := hq.cell 2 _ rfl; refine bodyPost_ret (v := .agg #[.string o1, .string t1, .slice a1 m1 c1]) (by simp [results, Tryz.results192, go_sem, hx, hy, hz]) rfl ?_; have hS9 := hR9.fin [.string o1, .string t1, .slice a1 m1 c1]; have hP9 := hR9.prc hc9 [.string o1, .string t1, .slice a1 m1 c1]; show XP g (.slice a0 n0 c0) k _ w _ (setAll _ (w.heap.size + 1 + 1) 0 [.string o1, .string t1, .slice a1 m1 c1]); rw [HR2.out]; refine ⟨hS9, hP9, _, _, _, _, _, rfl, ?_⟩
  first
   | exact fun h => absurd h he1
   | exact fun h => absurd h he2
   | exact fun h => absurd h HW2.out
   | exact fun _ => ExpIn.move (P := fun b => w.heap.size <= b /\ b ≠ w.heap.size + 1 + 1 /\ b ≠ w2.heap.size) (by rw [setAll_size]; exact Nat.le_refl _) (fun b hb _ => setAll_other _ _ 0 _ b hb.2.1) (fun b hb _ => hb.1) x1 _ HX.out
   | exact fun h => by cases h
structure Po (w0 : World) (q q5 g : Nat) (cs : Array Value) (w : World) : Prop where
 rs : Rs w0 q g w
 first : Cells w q5 cs 52
 q5g : q5 ≠ g
 q50 : w0.heap.size <= q5
 q5q : q5 ≠ q
theorem Po.step {w0 w w' : World} {q q5 g : Nat} {cs : Array Value} (h : Po w0 q q5 g cs w) (hs : Save g w w') : Po w0 q q5 g cs w' :=
 ⟨h.rs.step hs, hs.cells h.first h.q5g, h.q5g, h.q50, h.q5q⟩
theorem Po.put {w0 w : World} {q q5 g : Nat} {a b c : Value} (h : Po w0 q q5 g #[a, b, c] w) (x y z : Value) : Po w0 q q5 g #[x, y, z] (setAll w q5 0 [x, y, z]) :=
 ⟨⟨h.rs.save.setAllNew h.q50 _, h.rs.res.setAllOther (fun e => h.q5q e.symm), h.rs.qg, h.rs.q0⟩, h.first.put [x, y, z] 0, h.q5g, h.q50, h.q5q⟩
def PL (w0 : World) (q q5 g : Nat) (lv : Value) (l : List Tok) (k d m : Nat) (R : GotX) (wr : World) : Prop :=
  ∃ o t a nn c, Po w0 q q5 g #[.string o, .string t, .slice a nn c] wr /\
    ((∃ j x k', j <= m /\ Prs wr g lv l k' /\ k <= k' /\ R = upX (k' - k) (parX j (.ploop x) (l.drop k') d) /\ ExpIn (fun b => w0.heap.size <= b /\ b ≠ q /\ b ≠ q5) wr x (expV o t (.slice a nn c))) \/
     (∃ (k' : Nat) (e : Int), PrC wr g lv (k' : Nat) e /\ e ≠ 0 /\ k <= k' /\ R = (zeroX, k' - k, e)))
theorem is_no2 (w : World) (g : Nat) (lv : Value) (k e : Int) (s : ByteArray) (hc : PrC w g lv k e) (he : e ≠ 0) (hl : ∃ a n c, lv = .slice a n c) :
  Calls Tryz.prog 219 #[.pointer (some ⟨g, 0, none⟩), .string s] w fun r w' => r = .returned (.bool false) /\ PrC w' g lv k e /\ Save g w w' := by
 refine (is_no w g lv k e s hc he hl).mono ?_; rintro _ _ ⟨rfl, n, rfl⟩; exact ⟨rfl, hc.drewN n, (Save.refl g w).drewN n⟩
theorem need_no2 (w : World) (g : Nat) (lv : Value) (k e : Int) (s : ByteArray) (hc : PrC w g lv k e) (he : e ≠ 0) (hl : ∃ a n c, lv = .slice a n c) :
  Calls Tryz.prog 221 #[.pointer (some ⟨g, 0, none⟩), .string s] w fun r w' => r = .returned (.tuple #[]) /\ PrC w' g lv k e /\ Save g w w' := by
 refine (need_no w g lv k e s hc he hl).mono ?_; rintro _ _ ⟨rfl, n, rfl⟩; exact ⟨rfl, hc.drewN n, (Save.refl g w).drewN n⟩
theorem post_step (m : Nat) (hPr : PrimeC m) (hC : ∀ j, j <= m -> ChoiceC j) : PostC (m + 1) := by
 intro w g lv l k d h hd hne; obtain ⟨a0, c0, rfl, hl1, hl2, -⟩ := h.toks.len; unfold maxLen at hl2; have hkl := h.le; have hsm := h.small; have hgw := h.box.lt; have H0 := Lib.hid h; have hR := Rs.start h; have h1 := h.step ((Below.refl _ w).alloc (Nat.le_refl _) (.cells zeroC 52)); obtain ⟨R, hRR⟩ : ∃ R, R = parX (m + 1) .post (l.drop k) d := ⟨_, rfl⟩; rw [<- hRR] at hne ⊢; rw [parX] at hRR; have hr1 : (parX m .prime (l.drop k) d).2.2 ≠ -1 := by rw [hRR] at hne; exact andX_ne hne
 have hle1 : (parX m .prime (l.drop k) d).2.1 <= (l.drop k).length := (parX_le m .prime (l.drop k) d (by simp only [Nt.okX]) hr1).1; rw [List.length_drop] at hle1; have hTT := fun w3 h3 => hPr w3 g (.slice a0 l.length c0) l k d h3 hd hr1; generalize parX m .prime (l.drop k) d = r1 at *; obtain ⟨x1, n1, e1⟩ := r1; simp only at hle1 hr1; have HRR := Lib.hid hRR; clear hRR hr1; go_enter Tryz.func230, Tryz.ntmps230; go_wp2_with fail; refine (hTT _ h1).mono ?_; rintro _ w4 ⟨hs4, hc4, o, t, a, nn, c, rfl, hX⟩; simp only at hc4 hX; have hz4 := hs4.size; simp only [World.size_alloc] at hz4; have hb5 : Below w4.heap.size w4 (w4.alloc (.cells #[.string o, .string t, .slice a nn c] 52)) := (Below.refl _ w4).alloc (Nat.le_refl _) _
 have hPo : Po w w.heap.size w4.heap.size g #[.string o, .string t, .slice a nn c] (w4.alloc (.cells #[.string o, .string t, .slice a nn c] 52)) :=
  ⟨(hR.step hs4).below hb5, Cells.new _ _ _, by omega, by omega, by omega⟩
 have hPL : PL w w.heap.size w4.heap.size g (.slice a0 l.length c0) l k d m R (w4.alloc (.cells #[.string o, .string t, .slice a nn c] 52)) := by
  refine ⟨o, t, a, nn, c, hPo, ?_⟩
  by_cases he : e1 = 0
  ·subst he
   left
   refine ⟨m, x1, k + n1, Nat.le_refl _, (h1.go hs4 hc4 (by omega)).step hb5, by omega, ?_, ?_⟩
   ·rw [HRR.out, andX_ok (by rfl)]
    simp only [List.drop_drop]; rw [show k + n1 - k = n1 by omega]
   ·refine ExpIn.move (by simp) (fun b _ hlt => Below.heap_alloc _ _ _ hlt) (fun b hb hlt => ?_) _ _ (hX rfl)
    simp only [World.size_alloc] at hb; exact ⟨by omega, by omega, by omega⟩
  ·right
   exact ⟨k + n1, e1, hc4.below hb5 hc4.lt, he, by omega, by rw [HRR.out, andX_bad (by exact he), show k + n1 - k = n1 by omega]⟩
 have HTL := Lib.hid hPL; clear hPL hX hPo hb5 hc4 hs4 hR h1 h hTT HRR hle1; have hq2 : w.heap.size < w4.heap.size := by omega
 go_wp2_with fail; go_loopw [6, 11, 69] (fun _ _ _ wr => PL w w.heap.size w4.heap.size g (.slice a0 l.length c0) l k d m R wr) (fun _ _ _ wr => l.length + 1 - posOf wr g)
 case atStart => exact HTL.out
 case round =>
  clear HTL; obtain ⟨o5, t5, a5, nn5, c5, hC9, hst⟩ := hrel; rcases hst with ⟨j, x, k', hj, h5, hkk, hRe, hX⟩ | ⟨k', e, hc9, he, hkk, hRe⟩
  ·cases j with
   | zero => rw [hRe] at hne; exact absurd rfl hne
   | succ j =>
   rw [parX] at hRe; have hkl5 := h5.le; have hI := is_ok _ g _ l k' sDot h5; have HPO := Lib.hid h5.box.pos
   by_cases s1 : isS (l.drop k') sDot = true
   ·rw [if_pos s1] at hRe
    rw [s1] at hI; have hk1 : k' + 1 <= l.length := by have := isS_some s1; rw [List.length_drop] at this; omega
    go_wp2_with fail; refine hI.mono ?_; rintro _ w5 ⟨rfl, hb5⟩; have h55 := h5.step hb5; have hX5 := ExpIn.below hb5 x _ hX
    replace hC9 := hC9.step (Save.of hb5)
    have hz5 := hb5.size; clear hI hb5 h5 hX; have hs6 : Save g w5 (w5.setCell ⟨g, 1, none⟩ (.int .i64 ((k' : Int) + 1))) := (Save.refl g w5).set 1 _; have hc6 : PrC (w5.setCell ⟨g, 1, none⟩ (.int .i64 ((k' : Int) + 1))) g (.slice a0 l.length c0) ((k' + 1 : Nat)) 0 := h55.box.setI 1 (.int .i64 ((k' : Int) + 1)); have h6 : Prs (w5.setCell ⟨g, 1, none⟩ (.int .i64 ((k' : Int) + 1))) g (.slice a0 l.length c0) l (k' + 1) := h55.go hs6 hc6 hk1; have hX6 := ExpIn.move hs6.size (fun b hb hlt => hs6.2 b hlt (by omega)) (fun b hb _ => hb) x _ hX5; have H6 := Lib.hid (And.intro (hC9.step hs6) (And.intro h6 hX6)); have hbox := h55.box; have hbl := hbox.lt; clear hs6 hc6 h6 hX6 hX5 h55 hC9; have hboxc0 := hbox.cell 0 _ rfl; have hboxf0 := hbox.frozen 0; have hboxc1 := hbox.cell 1 _ rfl; have hboxf1 := hbox.frozen 1; have hboxc2 := hbox.cell 2 _ rfl; have hboxf2 := hbox.frozen 2; clear hbox; go_wp2_with fail; clear hboxc0 hboxc1 hboxc2 hboxf0 hboxf1 hboxf2 hbl; obtain ⟨hC9, h6, hX6⟩ := H6.out; clear H6; generalize w5.setCell ⟨g, 1, none⟩ (.int .i64 ((k' : Int) + 1)) = w6 at *; have hc9 := h6.box; obtain ⟨kp, hkp⟩ : ∃ kp, kp = k' + 1 := ⟨_, rfl⟩; rw [<- hkp] at h6 hc9 hk1; have hdd : (l.drop k').drop 1 = l.drop kp := by rw [List.drop_drop, hkp]
    rw [hdd] at hRe; have hW := wrong_ok
    by_cases s3 : ∃ tk r, l.drop kp = tk :: r /\ tk.kind = 1
    ·obtain ⟨tk, r, htk, hkd⟩ := s3
     rw [htk] at hRe; simp only at hRe; rw [if_pos hkd, List.drop_drop] at hRe
     have hkl6 : kp < l.length := by
      have := congrArg List.length htk; rw [List.length_drop, List.length_cons] at this; omega
     have htk2 : l[kp] = tk := by
      rw [List.drop_eq_getElem_cons hkl6] at htk; exact (List.cons.inj htk).1
     obtain ⟨tb, tof, hte, htb, c0', c1', c2'⟩ := ToksAt.get h6.toks hkl6; rw [htk2] at c0' c1' c2'; rw [hkd] at c0'; cases hte
     have hq : ((kp : Int) == (l.length : Int)) = false := by rw [beq_eq_false_iff_ne]; omega
     have hbox := h6.box; have hbl := hbox.lt; have hfi := hC9.first
     have hfl := hfi.lt; have H6 := Lib.hid (And.intro hC9 (And.intro h6 (And.intro hX6 (And.intro hRe (And.intro hkp (And.intro hkd htk)))))); clear hC9 h6 hc9 hX6 hRe hkp hdd htk htk2 hkd hW c2' hk1; have hb0 := hbox.cell 0 _ rfl; have hb1 := hbox.cell 1 _ rfl; have hn0 := hfi.cell 0 _ rfl; have hn1 := hfi.cell 1 _ rfl; have hn2 := hfi.cell 2 _ rfl; have hm0 := hfi.frozen 0; have hm1 := hfi.frozen 1; have hm2 := hfi.frozen 2; go_wp2_with fail; go_quiet (fail)
     go_wp2_with fail; clear hq c0'; have hcl := fun n => (hfi.drewN n).alloc (.cells #[.string o5, .string t5, .slice a5 nn5 c5] 52); have ha : ∀ (n b' o' : Nat) (u : Value), b' < w6.heap.size -> w6.cell? ⟨b', o', none⟩ = some u -> ((w6.drewN n).alloc (.cells #[.string o5, .string t5, .slice a5 nn5 c5] 52)).cell? ⟨b', o', none⟩ = some u := fun n b' o' u h1 h2 => (World.cell?_alloc_past _ _ _ h1).trans h2; have ha0 := fun n => ha n _ _ _ hbl hb0; have ha1 := fun n => ha n _ _ _ hbl hb1; have ha2 := fun n => ha n _ _ _ htb c1'; have hy0 := fun n => (hcl n).cell 0 _ rfl; have hy1 := fun n => (hcl n).cell 1 _ rfl; have hy2 := fun n => (hcl n).cell 2 _ rfl; have hz0 := fun n => (hcl n).frozen 0; have hz1 := fun n => (hcl n).frozen 1; have hz2 := fun n => (hcl n).frozen 2; have HF := Lib.hid hfi; have HB := Lib.hid hbox; clear hcl ha hfi hbox; go_region
     obtain ⟨hC9, h6, hX6, hRe, hkp, hkd, htk⟩ := H6.out; have hs7 : Save g w6 ((w6.drewN (nq + 1)).alloc (.cells #[.string o5, .string t5, .slice a5 nn5 c5] 52)) := ((Save.refl g w6).drewN _).alloc _; have hC7 := (hC9.step hs7).put (.string oGet) (.string tk.text) (.slice (some ⟨w6.heap.size, 0, none⟩) 1 1); have hc7 : PrC (setAll ((w6.drewN (nq + 1)).alloc (.cells #[.string o5, .string t5, .slice a5 nn5 c5] 52)) w4.heap.size 0 [.string oGet, .string tk.text, .slice (some ⟨w6.heap.size, 0, none⟩) 1 1]) g _ (kp : Nat) 0 := ((h6.box.drewN (nq + 1)).alloc (.cells #[.string o5, .string t5, .slice a5 nn5 c5] 52)).setAllOther (by omega); have hk7 : Cells (setAll ((w6.drewN (nq + 1)).alloc (.cells #[.string o5, .string t5, .slice a5 nn5 c5] 52)) w4.heap.size 0 [.string oGet, .string tk.text, .slice (some ⟨w6.heap.size, 0, none⟩) 1 1]) w6.heap.size _ _ := (Cells.new (w6.drewN (nq + 1)) #[.string o5, .string t5, .slice a5 nn5 c5] 52).setAllOther (by show w6.heap.size ≠ _; omega)
     have hot7 : ∀ b, b ≠ w4.heap.size -> b < w6.heap.size -> (setAll ((w6.drewN (nq + 1)).alloc (.cells #[.string o5, .string t5, .slice a5 nn5 c5] 52)) w4.heap.size 0 [.string oGet, .string tk.text, .slice (some ⟨w6.heap.size, 0, none⟩) 1 1]).heap[b]? = w6.heap[b]? := fun b hb hlt => by
      rw [setAll_other _ _ _ _ _ hb, Below.heap_alloc _ _ _ (by exact hlt)]; rfl
     have hsz7 : (setAll ((w6.drewN (nq + 1)).alloc (.cells #[.string o5, .string t5, .slice a5 nn5 c5] 52)) w4.heap.size 0 [.string oGet, .string tk.text, .slice (some ⟨w6.heap.size, 0, none⟩) 1 1]).heap.size = w6.heap.size + 1 := by
      rw [setAll_size, World.size_alloc]; rfl
     have hw7 : ∃ w7, w7 = setAll ((w6.drewN (nq + 1)).alloc (.cells #[.string o5, .string t5, .slice a5 nn5 c5] 52)) w4.heap.size 0 [.string oGet, .string tk.text, .slice (some ⟨w6.heap.size, 0, none⟩) 1 1] := ⟨_, rfl⟩; obtain ⟨w7, hw7⟩ := hw7; have hw7' : w7 = ((((w6.drewN (nq + 1)).alloc (.cells #[.string o5, .string t5, .slice a5 nn5 c5] 52)).setCell ⟨w4.heap.size, 0, none⟩ (.string oGet)).setCell ⟨w4.heap.size, 1, none⟩ (.string tk.text)).setCell ⟨w4.heap.size, 2, none⟩ (.slice (some ⟨w6.heap.size, 0, none⟩) 1 1) := hw7; rw [<- hw7']; rw [<- hw7] at hC7 hc7 hk7 hot7 hsz7; clear hw7 hw7'
     have hX7 := node_at (P := fun b => w.heap.size <= b /\ b ≠ w.heap.size /\ b ≠ w4.heap.size) (op := oGet) (text := tk.text) [(x, expV o5 t5 (.slice a5 nn5 c5))] hk7 ⟨by omega, by omega, by omega⟩ (fun s hs => by
      simp at hs
      subst hs
      exact ExpIn.move (by omega) (fun b hb hlt => hot7 b hb.2.2 hlt) (fun b hb _ => hb) x _ hX6) (by unfold maxLen; simp)
     have hc8 : PrC (w7.setCell ⟨g, 1, none⟩ (.int .i64 ((kp : Int) + 1))) g _ ((kp + 1 : Nat)) 0 := hc7.setI 1 (.int .i64 ((kp : Int) + 1)); have hs8 : Save g w7 (w7.setCell ⟨g, 1, none⟩ (.int .i64 ((kp : Int) + 1))) := (Save.refl g w7).set 1 _; have hC8 := hC7.step hs8; have hX8 := ExpIn.move hs8.size (fun b hb hlt => hs8.2 b hlt (by omega)) (fun b hb _ => hb) _ _ hX7; have H8 := Lib.hid (And.intro hC8 (And.intro hc8 (And.intro hX8 (And.intro hRe hkp)))); have hgl := hc7.lt; clear hC9 h6 hX6 hRe hkp hkd htk H6 hs7 hC7 hk7 hot7 hsz7 hX7 hc8 hs8 hC8 hX8 HF HB ha0 ha1 ha2 hy0 hy1 hy2 hz0 hz1 hz2 hb0 hb1 hn0 hn1 hn2 hm0 hm1 hm2 c1' hbl hfl; have hc7c0 := hc7.cell 0 _ rfl; have hc7f0 := hc7.frozen 0; have hc7c1 := hc7.cell 1 _ rfl; have hc7f1 := hc7.frozen 1; have hc7c2 := hc7.cell 2 _ rfl; have hc7f2 := hc7.frozen 2; clear hc7; go_wp2_with fail; obtain ⟨hC8, hc8, hX8, hRe, hkp⟩ := H8.out; constructor
     ·refine ⟨_, _, _, _, _, hC8, .inl ⟨j, _, kp + 1, by omega, H0.out.go hC8.rs.save hc8 (by omega), by omega, ?_, hX8⟩⟩
      rw [hRe, upX_upX]; show upX (k' - k + 2) _ = _; rw [show k' - k + 2 = kp + 1 - k by omega, show k' + 2 = kp + 1 by omega]; rfl
     ·rw [PrC.pos hc8, HPO.out]
      omega
    ·have hRe2 : R = upX (k' - k) (zeroX, 1, wrE (l.drop kp)) := by
      rw [hRe, <- badX_e]
      cases hq : l.drop kp with
      | nil => rfl
      | cons tk r =>
       simp only; rw [if_neg (fun e => s3 ⟨tk, r, hq, e⟩)]
     clear hRe; have hW := fun n => wrong_ok (w6.drewN n) g _ l kp (h6.step (below_draws w6.heap.size w6 n)); have hw2 : wrE (l.drop kp) ≠ 0 := wrE_ne _; have hbox := h6.box; have hbl := hbox.lt
     by_cases hkl6 : kp = l.length
     focus
      have hq : ((kp : Int) == (l.length : Int)) = true := by rw [beq_iff_eq]; omega
      generalize wrE (l.drop kp) = ee at *; have HRe := Lib.hid (And.intro hRe2 (And.intro hw2 hkp)); clear hRe2 hw2 hkl6 h6 hc9 hX6 hkp hdd s3 hk1; have hboxc0 := hbox.cell 0 _ rfl; have hboxf0 := hbox.frozen 0; have hboxc1 := hbox.cell 1 _ rfl; have hboxf1 := hbox.frozen 1; have hboxc2 := hbox.cell 2 _ rfl; have hboxf2 := hbox.frozen 2; clear hbox
     rotate_left
     focus
      have hkl6 : kp < l.length := by omega
      have hq : ((kp : Int) == (l.length : Int)) = false := by rw [beq_eq_false_iff_ne]; omega
      obtain ⟨tb, tof, hte, htb, c0', c1', c2'⟩ := ToksAt.get h6.toks hkl6
      have hkn : (l[kp].kind != 1) = true := by
       rw [bne_iff_ne]; intro e; exact s3 ⟨l[kp], _, List.drop_eq_getElem_cons hkl6, e⟩
      cases hte
      generalize l[kp].kind = kk at *; generalize wrE (l.drop kp) = ee at *; have HRe := Lib.hid (And.intro hRe2 (And.intro hw2 hkp)); clear hRe2 hw2 h6 hc9 hX6 hkp hdd s3 hk1; have hboxc0 := hbox.cell 0 _ rfl; have hboxf0 := hbox.frozen 0; have hboxc1 := hbox.cell 1 _ rfl; have hboxf1 := hbox.frozen 1; have hboxc2 := hbox.cell 2 _ rfl; have hboxf2 := hbox.frozen 2; clear hbox
     all_goals
      go_quiet (fail)
      go_wp2_with fail; refine (hW _).mono ?_; rintro _ w7 ⟨rfl, hc7, hs7⟩
      replace hC9 := (hC9.step ((Save.refl g w6).drewN _)).step hs7
      have hc9 := hc7; clear hbl hboxc0 hboxc1 hboxc2 hboxf0 hboxf1 hboxf2 hc7 hs7 hW; have hres := hC9.rs.res; have hrl := hres.lt; have hfi := hC9.first
      have hfl := hfi.lt; have hgl := hc9.lt; have HR := Lib.hid (And.intro hC9 hc9); have hresc0 := hres.cell 0 _ rfl; have hresf0 := hres.frozen 0; have hresc1 := hres.cell 1 _ rfl; have hresf1 := hres.frozen 1; have hresc2 := hres.cell 2 _ rfl; have hresf2 := hres.frozen 2; have hfic0 := hfi.cell 0 _ rfl; have hfif0 := hfi.frozen 0; have hfic1 := hfi.cell 1 _ rfl; have hfif1 := hfi.frozen 1; have hfic2 := hfi.cell 2 _ rfl; have hfif2 := hfi.frozen 2; have hc9c0 := hc9.cell 0 _ rfl; have hc9f0 := hc9.frozen 0; have hc9c1 := hc9.cell 1 _ rfl; have hc9f1 := hc9.frozen 1; have hc9c2 := hc9.cell 2 _ rfl; have hc9f2 := hc9.frozen 2; clear hC9 hc9 hres hfi; go_wp2; obtain ⟨hC9, hc9⟩ := HR.out; have hR9 := hC9.rs; have hq := ((hR9.res.setI 0 (.string o5)).setI 1 (.string t5)).setI 2 (.slice a5 nn5 c5); have hx := hq.cell 0 _ rfl; have hy := hq.cell 1 _ rfl; have hz := hq.cell 2 _ rfl; refine bodyPost_ret (v := .agg #[.string o5, .string t5, .slice a5 nn5 c5]) (by simp [results, Tryz.results230, go_sem, hx, hy, hz]) rfl ?_; have hS9 := hR9.fin [.string o5, .string t5, .slice a5 nn5 c5]; have hP9 := hR9.prc hc9 [.string o5, .string t5, .slice a5 nn5 c5]; show XP g (.slice _ l.length c0) k _ w _ (setAll w7 w.heap.size 0 [.string o5, .string t5, .slice a5 nn5 c5]); obtain ⟨hRe, hw2, hkp⟩ := HRe.out; rw [hRe]; simp only [upX]; have hkx : k + (k' - k + 1) = kp := by omega
      exact ⟨hS9, by show PrC _ g _ ((k + (k' - k + 1) : Nat)) ee; rw [hkx]; exact hP9, _, _, _, _, _, rfl, fun h => absurd h hw2⟩
   ·have s1f : isS (l.drop k') sDot = false := by simpa using s1
    rw [if_neg s1] at hRe; rw [s1f] at hI; go_wp2_with fail; refine hI.mono ?_; rintro _ w5 ⟨rfl, hb5⟩; have h55 := h5.step hb5; have hX5 := ExpIn.below hb5 x _ hX
    replace hC9 := hC9.step (Save.of hb5)
    have hz5 := hb5.size; clear hI hb5 h5 hX; have hI := is_ok _ g _ l k' sLb h55
    by_cases s2 : isS (l.drop k') sLb = true
    ·rw [if_pos s2] at hRe
     rw [s2] at hI; have hk1 : k' + 1 <= l.length := by have := isS_some s2; rw [List.length_drop] at this; omega
     go_wp2_with fail; refine hI.mono ?_; rintro _ w6 ⟨rfl, hb6⟩; have h66 := h55.step hb6; have hX6 := ExpIn.below hb6 x _ hX5
     replace hC9 := hC9.step (Save.of hb6)
     have hz6 := hb6.size; clear hI hb6 h55 hX5
     by_cases hd6 : 64 <= d
     ·rw [if_pos hd6] at hRe
      have hN := into_no w6 g _ k' d h66.box hd6; clear hX6 h66; go_wp2_with fail; refine hN.mono ?_; rintro _ w7 ⟨rfl, hc7, hs7⟩
      replace hC9 := hC9.step hs7
      have hc9 := hc7; clear hc7 hs7 hN; have hres := hC9.rs.res; have hrl := hres.lt; have hfi := hC9.first
      have hfl := hfi.lt; have hgl := hc9.lt; have HR := Lib.hid (And.intro hC9 hc9); have hresc0 := hres.cell 0 _ rfl; have hresf0 := hres.frozen 0; have hresc1 := hres.cell 1 _ rfl; have hresf1 := hres.frozen 1; have hresc2 := hres.cell 2 _ rfl; have hresf2 := hres.frozen 2; have hfic0 := hfi.cell 0 _ rfl; have hfif0 := hfi.frozen 0; have hfic1 := hfi.cell 1 _ rfl; have hfif1 := hfi.frozen 1; have hfic2 := hfi.cell 2 _ rfl; have hfif2 := hfi.frozen 2; have hc9c0 := hc9.cell 0 _ rfl; have hc9f0 := hc9.frozen 0; have hc9c1 := hc9.cell 1 _ rfl; have hc9f1 := hc9.frozen 1; have hc9c2 := hc9.cell 2 _ rfl; have hc9f2 := hc9.frozen 2; clear hC9 hc9 hres hfi; go_wp2; obtain ⟨hC9, hc9⟩ := HR.out; have hR9 := hC9.rs; have hq := ((hR9.res.setI 0 (.string o5)).setI 1 (.string t5)).setI 2 (.slice a5 nn5 c5); have hx := hq.cell 0 _ rfl; have hy := hq.cell 1 _ rfl; have hz := hq.cell 2 _ rfl; refine bodyPost_ret (v := .agg #[.string o5, .string t5, .slice a5 nn5 c5]) (by simp [results, Tryz.results230, go_sem, hx, hy, hz]) rfl ?_; have hS9 := hR9.fin [.string o5, .string t5, .slice a5 nn5 c5]; have hP9 := hR9.prc hc9 [.string o5, .string t5, .slice a5 nn5 c5]; show XP g (.slice a0 l.length c0) k _ w _ (setAll w7 w.heap.size 0 [.string o5, .string t5, .slice a5 nn5 c5]); rw [hRe]; simp only [upX, deepX, Nat.add_zero]; have hkx : k + (k' - k) = k' := by omega
      exact ⟨hS9, by show PrC _ g _ ((k + (k' - k) : Nat)) 5; rw [hkx]; exact hP9, _, _, _, _, _, rfl, fun h => by cases h⟩
     ·rw [if_neg hd6] at hRe
      have hN := into_yes w6 g _ k' d h66.box (by omega) (by omega)
      have hr2 : (parX j .choice (l.drop (k' + 1)) (d + 1)).2.2 ≠ -1 := by
       have hne2 := hne; rw [hRe, List.drop_drop] at hne2; exact andX_ne (g := upX 1 (parX j .choice (l.drop (k' + 1)) (d + 1))) hne2
      have hle2 := (parX_le j .choice (l.drop (k' + 1)) (d + 1) (by simp only [Nt.okX]) hr2).1; rw [List.length_drop] at hle2; have hCC := fun w3 h3 => hC j (by omega) w3 g (.slice a0 l.length c0) l (k' + 1) (d + 1) h3 (by omega) hr2; rw [show ((d + 1 : Nat) : Int) = (d : Int) + 1 by omega] at hCC; rw [List.drop_drop] at hRe; generalize parX j .choice (l.drop (k' + 1)) (d + 1) = r2 at *; obtain ⟨x2, n2, e2⟩ := r2; simp only at hle2 hr2; have HRe := Lib.hid hRe; clear hRe; go_wp2_with fail; refine hN.mono ?_; rintro _ w7 ⟨rfl, hc7, hs7⟩; have h77 : Prs w7 g (.slice a0 l.length c0) l (k' + 1) := h66.go hs7 hc7 hk1; have hX7 := ExpIn.move hs7.size (fun b hb hlt => hs7.2 b hlt (by omega)) (fun b hb _ => hb) x _ hX6
      replace hC9 := hC9.step hs7
      clear hN hs7 hc7 h66 hX6; go_wp2_with fail; refine (hCC w7 h77).mono ?_; rintro _ w8 ⟨hs8, hc8, o2, t2, a2, m2, c2, rfl, hX2⟩; simp only at hc8 hX2; have hlt5 := hC9.first.lt
      have hlr5 := hC9.rs.res.lt; have hX8 := ExpIn.move hs8.size (fun b hb hlt => hs8.2 b hlt (by omega)) (fun b hb _ => hb) x _ hX7; have hz8 := hs8.size
      have hB8 : e2 = 0 -> ExpIn (fun b => w.heap.size <= b /\ b ≠ w.heap.size /\ b ≠ w4.heap.size) w8 x2 (expV o2 t2 (.slice a2 m2 c2)) := fun he =>
       ExpIn.move (Nat.le_refl _) (fun b hb _ => rfl) (fun b hb _ => ⟨by omega, by omega, by omega⟩) x2 _ (hX2 he)
      replace hC9 := hC9.step hs8
      have hP8 : e2 = 0 -> Prs w8 g (.slice a0 l.length c0) l (k' + 1 + n2) := fun he => by
       subst he; exact h77.go hs8 hc8 (by omega)
      clear hs8 h77 hX7 hCC hX2
      -- the box of what lies between the brackets
      have hb9 : Below w8.heap.size w8 (w8.alloc (.cells #[.string o2, .string t2, .slice a2 m2 c2] 52)) := (Below.refl _ _).alloc (Nat.le_refl _) _; have hk9 := Cells.new w8 #[.string o2, .string t2, .slice a2 m2 c2] 52
      replace hC9 := hC9.step (Save.of hb9)
      have hc9 := hc8.below hb9 hc8.lt; have hP9 : e2 = 0 -> Prs (w8.alloc (.cells #[.string o2, .string t2, .slice a2 m2 c2] 52)) g (.slice a0 l.length c0) l (k' + 1 + n2) := fun he => (hP8 he).step hb9; have HX9 := Lib.hid (And.intro (ExpIn.below hb9 x _ hX8) (fun he => ExpIn.below hb9 x2 _ (hB8 he))); have hz9 : (w8.alloc (.cells #[.string o2, .string t2, .slice a2 m2 c2] 52)).heap.size = w8.heap.size + 1 := by simp
      have H9 := Lib.hid (And.intro hC9 (And.intro hc9 (And.intro hP9 (And.intro hk9 hz9)))); clear hb9 hC9 hc9 hP9 hk9 hX8 hB8 hP8 hc8 hz9; go_wp2_with fail; obtain ⟨hC9, hc9, hP9, hk9, hz9⟩ := H9.out; clear H9; generalize w8.alloc (.cells #[.string o2, .string t2, .slice a2 m2 c2] 52) = w9 at *
      have hN : ∃ (kk : Nat) (ee : Int), k' + 1 + n2 <= kk /\ kk <= l.length /\ Calls Tryz.prog 221 #[.pointer (some ⟨g, 0, none⟩), .string sRb] w9 (fun r w' => r = .returned (.tuple #[]) /\ PrC w' g (.slice a0 l.length c0) (kk : Nat) ee /\ Save g w9 w') /\
        ((ee = 0 /\ e2 = 0 /\ R = upX (kk - k) (parX j (.ploop (.mk oAt oNo [x, x2])) (l.drop kk) d)) \/ (ee ≠ 0 /\ R = (zeroX, kk - k, ee))) := by
       have hRe := HRe.out
       by_cases he : e2 = 0
       ·subst he
        have hRe2 : R = upX (k' - k) (if isS (l.drop (k' + (1 + n2))) sRb = false then badX (l.drop (k' + (1 + n2))) (1 + n2) else upX (1 + n2 + 1) (parX j (.ploop (.mk oAt oNo [x, x2])) (l.drop (k' + (1 + n2 + 1))) d)) := by
         rw [hRe, andX_ok (by rfl)]; simp only [List.drop_drop]; rfl
        have hN := need_ok w9 g _ l (k' + 1 + n2) sRb (hP9 rfl); rw [show k' + (1 + n2) = k' + 1 + n2 by omega, show k' + (1 + n2 + 1) = k' + 1 + n2 + 1 by omega] at hRe2
        by_cases s3 : isS (l.drop (k' + 1 + n2)) sRb = false
        ·rw [if_pos s3, badX_e] at hRe2
         rw [s3, if_neg (by simp), if_neg (by simp)] at hN; refine ⟨k' + 1 + n2, _, Nat.le_refl _, by omega, hN, .inr ⟨wrE_ne _, ?_⟩⟩; rw [hRe2]; exact Prod.ext rfl (Prod.ext (by simp only [upX]; omega) rfl)
        ·have s3t : isS (l.drop (k' + 1 + n2)) sRb = true := by simpa using s3
         have hk2 : k' + 1 + n2 + 1 <= l.length := by have := isS_some s3t; rw [List.length_drop] at this; omega
         rw [if_neg s3, upX_upX] at hRe2; rw [s3t, if_pos rfl, if_pos rfl] at hN; refine ⟨k' + 1 + n2 + 1, _, by omega, hk2, hN, .inl ⟨rfl, rfl, ?_⟩⟩; rw [hRe2, show k' - k + (1 + n2 + 1) = k' + 1 + n2 + 1 - k by omega]
       ·rw [andX_bad (by exact he)] at hRe
        refine ⟨k' + 1 + n2, e2, Nat.le_refl _, by omega, need_no2 w9 g _ _ e2 sRb hc9 he ⟨_, _, _, rfl⟩, .inr ⟨he, ?_⟩⟩; rw [hRe]; exact Prod.ext rfl (Prod.ext (by simp only [upX]; omega) rfl)
      obtain ⟨kk, ee, hkk1, hkk2, hN, hcase⟩ := hN; refine hN.mono ?_; rintro _ w10 ⟨rfl, hc10, hs10⟩; have hk10 := hs10.cells hk9 (by omega)
      replace hC9 := hC9.step hs10
      have hX10 := ExpIn.move hs10.size (fun b hb hlt => hs10.2 b hlt (by omega)) (fun b hb _ => hb) x _ HX9.out.1; have hY10 := fun he => ExpIn.move hs10.size (fun b hb hlt => hs10.2 b hlt (by omega)) (fun b hb _ => hb) x2 _ (HX9.out.2 he); have hz10 := hs10.size; have hfi := hC9.first
      have hfl := hfi.lt; have hkl10 := hk10.lt; have H10 := Lib.hid (And.intro hC9 (And.intro hc10 (And.intro hX10 (And.intro hY10 hcase)))); clear hs10 hk9 hC9 hc10 hX10 hY10 hcase hN HX9 hc9 hP9 HRe; have hfic0 := hfi.cell 0 _ rfl; have hfif0 := hfi.frozen 0; have hfic1 := hfi.cell 1 _ rfl; have hfif1 := hfi.frozen 1; have hfic2 := hfi.cell 2 _ rfl; have hfif2 := hfi.frozen 2; have hk10c0 := hk10.cell 0 _ rfl; have hk10f0 := hk10.frozen 0; have hk10c1 := hk10.cell 1 _ rfl; have hk10f1 := hk10.frozen 1; have hk10c2 := hk10.cell 2 _ rfl; have hk10f2 := hk10.frozen 2; clear hfi hk10; go_wp2_with fail; obtain ⟨hC9, hc10, hX10, hY10, hcase⟩ := H10.out; have hC11 := hC9.put (.string oAt) (.string ⟨#[]⟩) (.slice (some ⟨w10.heap.size, 0, none⟩) 2 2); have hc11 : PrC (setAll w10 w4.heap.size 0 [.string oAt, .string ⟨#[]⟩, .slice (some ⟨w10.heap.size, 0, none⟩) 2 2]) g _ _ _ := hc10.setAllOther (by omega); have hot11 := fun b (hb : b ≠ w4.heap.size) => setAll_other w4.heap.size [.string oAt, .string ⟨#[]⟩, .slice (some ⟨w10.heap.size, 0, none⟩) 2 2] 0 w10 b hb; have hsz11 := setAll_size w4.heap.size [.string oAt, .string ⟨#[]⟩, .slice (some ⟨w10.heap.size, 0, none⟩) 2 2] 0 w10
      show PL w w.heap.size w4.heap.size g (.slice a0 l.length c0) l k d m R ((setAll w10 w4.heap.size 0 [.string oAt, .string ⟨#[]⟩, .slice (some ⟨w10.heap.size, 0, none⟩) 2 2]).alloc (.cells #[.string o5, .string t5, .slice a5 nn5 c5, .string o2, .string t2, .slice a2 m2 c2] 52)) /\
       l.length + 1 - posOf ((setAll w10 w4.heap.size 0 [.string oAt, .string ⟨#[]⟩, .slice (some ⟨w10.heap.size, 0, none⟩) 2 2]).alloc (.cells #[.string o5, .string t5, .slice a5 nn5 c5, .string o2, .string t2, .slice a2 m2 c2] 52)) g < l.length + 1 - posOf wr g
      generalize setAll w10 w4.heap.size 0 [.string oAt, .string ⟨#[]⟩, .slice (some ⟨w10.heap.size, 0, none⟩) 2 2] = w11 at *; have hb12 : Below w11.heap.size w11 (w11.alloc (.cells #[.string o5, .string t5, .slice a5 nn5 c5, .string o2, .string t2, .slice a2 m2 c2] 52)) := (Below.refl _ _).alloc (Nat.le_refl _) _; have hk12 := Cells.new w11 #[.string o5, .string t5, .slice a5 nn5 c5, .string o2, .string t2, .slice a2 m2 c2] 52; have hC12 := hC11.step (Save.of hb12); have hc12 : PrC (w11.alloc (.cells #[.string o5, .string t5, .slice a5 nn5 c5, .string o2, .string t2, .slice a2 m2 c2] 52)) g (.slice a0 l.length c0) (kk : Nat) ee := hc11.below hb12 hc11.lt
      have hot12 : ∀ b, b ≠ w4.heap.size -> b < w10.heap.size -> (w11.alloc (.cells #[.string o5, .string t5, .slice a5 nn5 c5, .string o2, .string t2, .slice a2 m2 c2] 52)).heap[b]? = w10.heap[b]? := fun b hb hlt => by
       rw [hb12.block b (by omega), hot11 b hb]
      have hsz12 : (w11.alloc (.cells #[.string o5, .string t5, .slice a5 nn5 c5, .string o2, .string t2, .slice a2 m2 c2] 52)).heap.size = w10.heap.size + 1 := by rw [World.size_alloc, hsz11]
      rw [hsz11] at hk12; generalize w11.alloc (.cells #[.string o5, .string t5, .slice a5 nn5 c5, .string o2, .string t2, .slice a2 m2 c2] 52) = w12 at *; constructor
      ·refine ⟨_, _, _, _, _, hC12, ?_⟩
       rcases hcase with ⟨he0, he2, hRR⟩ | ⟨he, hRR⟩
       ·subst he0
        left
        refine ⟨j, _, kk, by omega, H0.out.go hC12.rs.save hc12 hkk2, by omega, hRR, ?_⟩; refine node_at (P := fun b => w.heap.size <= b /\ b ≠ w.heap.size /\ b ≠ w4.heap.size) (op := oAt) (text := ⟨#[]⟩) [(x, expV o5 t5 (.slice a5 nn5 c5)), (x2, expV o2 t2 (.slice a2 m2 c2))] hk12 ⟨by omega, by omega, by omega⟩ (fun s hs => ?_) (by unfold maxLen; simp); simp at hs
        rcases hs with rfl | rfl
        ·exact ExpIn.move (by omega) (fun b hb hlt => hot12 b hb.2.2 hlt) (fun b hb _ => hb) x _ hX10
        ·exact ExpIn.move (by omega) (fun b hb hlt => hot12 b hb.2.2 hlt) (fun b hb _ => hb) x2 _ (hY10 he2)
       ·right
        exact ⟨kk, ee, hc12, he, by omega, hRR⟩
      ·rw [PrC.pos hc12, HPO.out]
       omega
    ·have s2f : isS (l.drop k') sLb = false := by simpa using s2
     rw [if_neg s2] at hRe; rw [s2f] at hI; go_wp2_with fail; refine hI.mono ?_; rintro _ w6 ⟨rfl, hb6⟩; have hX6 := Lib.hid (ExpIn.below hb6 x _ hX5)
     replace hC9 := hC9.step (Save.of hb6)
     have hc9 := h55.box.below hb6 h55.box.lt; clear hI hb6 hX5 h55; have hres := hC9.rs.res; have hrl := hres.lt; have hfi := hC9.first
     have hfl := hfi.lt; have hgl := hc9.lt; have HR := Lib.hid (And.intro hC9 hc9); have hresc0 := hres.cell 0 _ rfl; have hresf0 := hres.frozen 0; have hresc1 := hres.cell 1 _ rfl; have hresf1 := hres.frozen 1; have hresc2 := hres.cell 2 _ rfl; have hresf2 := hres.frozen 2; have hfic0 := hfi.cell 0 _ rfl; have hfif0 := hfi.frozen 0; have hfic1 := hfi.cell 1 _ rfl; have hfif1 := hfi.frozen 1; have hfic2 := hfi.cell 2 _ rfl; have hfif2 := hfi.frozen 2; have hc9c0 := hc9.cell 0 _ rfl; have hc9f0 := hc9.frozen 0; have hc9c1 := hc9.cell 1 _ rfl; have hc9f1 := hc9.frozen 1; have hc9c2 := hc9.cell 2 _ rfl; have hc9f2 := hc9.frozen 2; clear hC9 hc9 hres hfi; go_wp2; obtain ⟨hC9, hc9⟩ := HR.out; have hR9 := hC9.rs; have hq := ((hR9.res.setI 0 (.string o5)).setI 1 (.string t5)).setI 2 (.slice a5 nn5 c5); have hx := hq.cell 0 _ rfl; have hy := hq.cell 1 _ rfl; have hz := hq.cell 2 _ rfl; refine bodyPost_ret (v := .agg #[.string o5, .string t5, .slice a5 nn5 c5]) (by simp [results, Tryz.results230, go_sem, hx, hy, hz]) rfl ?_; have hS9 := hR9.fin [.string o5, .string t5, .slice a5 nn5 c5]; have hP9 := hR9.prc hc9 [.string o5, .string t5, .slice a5 nn5 c5]; show XP g (.slice a0 l.length c0) k _ w _ (setAll w6 w.heap.size 0 [.string o5, .string t5, .slice a5 nn5 c5]); rw [hRe]; simp only [upX, Nat.add_zero]; have hkx : k + (k' - k) = k' := by omega
     exact ⟨hS9, by show PrC _ g _ ((k + (k' - k) : Nat)) 0; rw [hkx]; exact hP9, _, _, _, _, _, rfl, fun _ => ExpIn.move (P := fun b => w.heap.size <= b /\ b ≠ w.heap.size /\ b ≠ w4.heap.size) (by rw [setAll_size]; exact Nat.le_refl _) (fun b hb _ => setAll_other _ _ 0 _ b hb.2.1) (fun b hb _ => hb.1) x _ hX6.out⟩
  ·have hI := is_no2 _ g _ _ e sDot hc9 he ⟨_, _, _, rfl⟩
   go_wp2_with fail; refine hI.mono ?_; rintro _ w6 ⟨rfl, hc6, hs6⟩
   replace hC9 := hC9.step hs6
   replace hc9 := hc6
   clear hI hs6 hc6; have hI := is_no2 _ g _ _ e sLb hc9 he ⟨_, _, _, rfl⟩; go_wp2_with fail; refine hI.mono ?_; rintro _ w7 ⟨rfl, hc7, hs7⟩
   replace hC9 := hC9.step hs7
   replace hc9 := hc7
   clear hI hc7 hs7; have hres := hC9.rs.res; have hrl := hres.lt; have hfi := hC9.first
   have hfl := hfi.lt; have hgl := hc9.lt; have HR := Lib.hid (And.intro hC9 hc9); have hresc0 := hres.cell 0 _ rfl; have hresf0 := hres.frozen 0; have hresc1 := hres.cell 1 _ rfl; have hresf1 := hres.frozen 1; have hresc2 := hres.cell 2 _ rfl; have hresf2 := hres.frozen 2; have hfic0 := hfi.cell 0 _ rfl; have hfif0 := hfi.frozen 0; have hfic1 := hfi.cell 1 _ rfl; have hfif1 := hfi.frozen 1; have hfic2 := hfi.cell 2 _ rfl; have hfif2 := hfi.frozen 2; have hc9c0 := hc9.cell 0 _ rfl; have hc9f0 := hc9.frozen 0; have hc9c1 := hc9.cell 1 _ rfl; have hc9f1 := hc9.frozen 1; have hc9c2 := hc9.cell 2 _ rfl; have hc9f2 := hc9.frozen 2; clear hC9 hc9 hres hfi; go_wp2; obtain ⟨hC9, hc9⟩ := HR.out; have hR9 := hC9.rs; have hq := ((hR9.res.setI 0 (.string o5)).setI 1 (.string t5)).setI 2 (.slice a5 nn5 c5); have hx := hq.cell 0 _ rfl; have hy := hq.cell 1 _ rfl; have hz := hq.cell 2 _ rfl; refine bodyPost_ret (v := .agg #[.string o5, .string t5, .slice a5 nn5 c5]) (by simp [results, Tryz.results230, go_sem, hx, hy, hz]) rfl ?_; have hS9 := hR9.fin [.string o5, .string t5, .slice a5 nn5 c5]; have hP9 := hR9.prc hc9 [.string o5, .string t5, .slice a5 nn5 c5]; show XP g (.slice a0 l.length c0) k _ w _ (setAll w7 w.heap.size 0 [.string o5, .string t5, .slice a5 nn5 c5]); rw [hRe]; have hkx : k + (k' - k) = k' := by omega
   exact ⟨hS9, by show PrC _ g _ ((k + (k' - k) : Nat)) e; rw [hkx]; exact hP9, _, _, _, _, _, rfl, fun h => absurd h he⟩
theorem Tryz.infoExp : (Tryz.prog.info? 52).map (fun i => (i.zero, i.size, i.bytes)) = some (some (.agg #[.string ⟨#[]⟩, .string ⟨#[]⟩, .slice none 0 0]), 3, 56) := by kernel_rfl
def RowX (base : Nat) (w : World) (v : Value) (L : List (Exp × List Value)) : Prop := (∀ s ∈ L, s.2.length = 3) /\ w.ownsRow base 52 3 v L.length (L.flatMap (·.2))
def InX (base : Nat) (w : World) (v : Value) (L : List (Exp × List Value)) : Prop := ∀ s ∈ L, ExpIn (fun k => base <= k /\ some k ≠ v.ownBlock) w s.1 s.2
theorem RowX.nil (base : Nat) (w : World) : RowX base w (.slice none 0 0) [] := ⟨by simp, World.ownsRow_nil _ _ _ _⟩
theorem RowX.keep {base : Nat} {w w' : World} {v : Value} {L : List (Exp × List Value)} (h : RowX base w v L) (hb : ∀ k, base <= k -> k < w.heap.size -> w'.heap[k]? = w.heap[k]?) : RowX base w' v L := by
 obtain ⟨h0, h⟩ := h; have hl := World.ownsRow.lt h; obtain ⟨h1, h2⟩ := h; refine ⟨h0, h1, ?_⟩; rcases h2 with h2 | ⟨g, cap, cur, hv, hg, hh, r⟩
 ·exact .inl h2
 ·refine .inr ⟨g, cap, cur, hv, hg, ?_, r⟩
  have := hl g (by rw [hv]; rfl); rw [hb g this.1 this.2]; exact hh
theorem InX.keep {base : Nat} {w w' : World} {v : Value} {L : List (Exp × List Value)} (h : InX base w v L) (hs : w.heap.size <= w'.heap.size) (hb : ∀ k, base <= k -> k < w.heap.size -> w'.heap[k]? = w.heap[k]?) : InX base w' v L :=
 fun s hs' => ExpIn.move hs (fun k hk hlt => hb k hk.1 hlt) (fun _ h _ => h) _ _ (h s hs')
theorem RowX.save {base g : Nat} {w w' : World} {v : Value} {L : List (Exp × List Value)} (h : RowX base w v L) (hs : Save g w w') (hg : g < base) : RowX base w' v L :=
 h.keep (fun k hk hlt => hs.2 k hlt (by omega))
theorem InX.save {base g : Nat} {w w' : World} {v : Value} {L : List (Exp × List Value)} (h : InX base w v L) (hs : Save g w w') (hg : g < base) : InX base w' v L :=
 h.keep hs.size (fun k hk hlt => hs.2 k hlt (by omega))
theorem RowX.len {base : Nat} {w : World} {v : Value} {L : List (Exp × List Value)} (h : RowX base w v L) : ∃ a cap, v = .slice a L.length cap := by
 obtain ⟨-, h1, h2⟩ := h; rcases h2 with ⟨rfl, h3⟩ | ⟨g, cap, cur, rfl, _⟩
 ·exact ⟨none, 0, by rw [h3]⟩
 ·exact ⟨_, cap, rfl⟩
theorem InX.push {base gb cap n : Nat} {w w' : World} {v : Value} {L : List (Exp × List Value)} {x : Exp} {cs : List Value} (h : InX base w v L) (hx : ExpIn (fun k => base <= k /\ some k ≠ v.ownBlock) w x cs)
  (hg : w.grownBy w' v.ownBlock) (ha : v.ownBlock = some gb \/ gb = w.heap.size) : InX base w' (.slice (some ⟨gb, 0, none⟩) n cap) (L ++ [(x, cs)]) := by
 have hm : ∀ (t : Exp) (cs : List Value), ExpIn (fun k => base <= k /\ some k ≠ v.ownBlock) w t cs -> ExpIn (fun k => base <= k /\ some k ≠ (Value.slice (some ⟨gb, 0, none⟩) n cap).ownBlock) w' t cs := fun t cs h =>
  ExpIn.move hg.size (fun k hk hlt => hg.block k hlt hk.2) (fun k hk hlt => ⟨hk.1, fun e => by
   simp only [Value.ownBlock] at e; rcases ha with ha | ha
   ·exact hk.2 (e.trans ha.symm)
   ·injection e with e; omega⟩) _ _ h
 intro s hs; rcases List.mem_append.1 hs with hs | hs
 ·exact hm _ _ (h s hs)
 ·simp at hs; subst hs; exact hm _ _ hx
theorem kidsX_row {base : Nat} {w : World} {v : Value} {L : List (Exp × List Value)} (hr : RowX base w v L) (hi : InX base w v L) : KidsX base w (L.map (·.1)) v := by
 intro o t; obtain ⟨h3, h1, h2⟩ := hr; rcases h2 with ⟨rfl, h0⟩ | ⟨g, cap, cur, rfl, hb, hg, hc1, hc2, hcs, htk⟩
 ·have : L = [] := List.eq_nil_of_length_eq_zero h0
  subst this; exact ExpIn.leaf _ w o t
 ·simp only [ExpIn]
  refine ⟨_, cap, by rw [List.length_map], by rw [List.length_map]; exact hc1, hc2, (fun h => by cases h), fun x hx hne => ?_⟩; cases hx
  refine ⟨rfl, ⟨(Array.getElem?_eq_some_iff.1 hg).1, hb, fun o => frozen_of_row w g o cur _ hg⟩, ExpsIn.make _ 0 (fun k hk => ?_)⟩; have hkL : k < L.length := by rw [List.length_map] at hk; exact hk
  refine ⟨L[k].2, fun j u hu => ?_, ?_⟩
  ·have hj : j < 3 := by have := (List.getElem?_eq_some_iff.1 hu).1; rw [h3 _ (List.getElem_mem hkL)] at this; exact this
   rw [Nat.zero_add, cell_of_row w g _ cur 52 (0, 0) hg]; have hf := flat3_get L h3 k hkL j hj; rw [<- htk, List.getElem?_take, if_pos (by omega)] at hf; rw [<- hu, <- hf]; simp
  ·rw [List.getElem_map]
   exact ExpIn.move (Nat.le_refl _) (fun _ _ _ => rfl) (fun b hb _ => hb.1) _ _ (hi _ (List.getElem_mem hkL))
section
variable {w : World} {ops : Array Oper} {rest : List Oper} {o : Oper} {a : Act} {Q : Exit -> Act -> World -> Prop}
theorem wpList_append_exp (hgd : o.guard = none) (s x : Operand)
  (ho : o.op = .call { callee := .builtin .append, args := #[s, x], argTypes := #[50, 50] })
  (base : Nat) (L : List (Exp × List Value)) (hown : RowX base w (a.eval s) L) (g : Nat) (hx : a.eval x = .slice (some ⟨g, 0, none⟩) 1 1) (y : Exp) (o1 t1 : ByteArray) (a1 : Option Addr) (n1 c1 : Nat)
  (hc : Cells w g #[.string o1, .string t1, .slice a1 n1 c1] 52)
  (hm : L.length <= 1000000) (hbase : base <= w.heap.size) (H : Nat) (hH : w.heap.size = H)
  (hK : ∀ gb cap w', RowX base w' (.slice (some ⟨gb, 0, none⟩) (L.length + 1) cap) (L ++ [(y, expV o1 t1 (.slice a1 n1 c1))]) -> w.grownBy w' (a.eval s).ownBlock -> ((a.eval s).ownBlock = some gb \/ gb = H) -> base <= gb ->
   wpList Tryz.prog ops Q rest (a.put o.dst (.slice (some ⟨gb, 0, none⟩) (L.length + 1) cap)) w') : wpList Tryz.prog ops Q (o :: rest) a w := by
 obtain ⟨i, hi1, hi2, hi3, hi4⟩ := info_parts Tryz.infoExp; refine wpList_append_lies w hgd s x 50 ho base 52 i _ 3 56 Tryz.underlying50 hi1 hi2 hi3 hi4 rfl (by decide) (a.eval s) L.length (L.flatMap (·.2)) rfl hown.2 ⟨g, 0, none⟩ 1 1 (expV o1 t1 (.slice a1 n1 c1)) hx rfl ?_ ?_ (by omega) (by unfold maxLen; omega) (by omega) hbase H hH ?_
 ·intro j u hu
  rw [Addr.add_lit, Nat.zero_add]; exact hc.cell _ _ (by simpa using hu)
 ·intro u hu
  simp at hu
  rcases hu with rfl | rfl | rfl <;> rfl
 ·intro gb cap w' hown' hg hat hlt
  have hl := World.ownsRow.lt hown' gb rfl; refine hK gb cap w' ⟨?_, by simpa using hown'⟩ hg hat hl.1; intro s hs; rcases List.mem_append.1 hs with hs | hs
  ·exact hown.1 s hs
  ·simp at hs; subst hs; rfl
end
end Go.Proofs.YtbcdaaobbebooaaGreatDoor
namespace Go.Proofs.YtbcdaaobbebooaaGreatDoor
set_option maxRecDepth 100000
set_option maxHeartbeats 20000000
end Go.Proofs.YtbcdaaobbebooaaGreatDoor
namespace Go.Proofs.YtbcdaaobbebooaaGreatDoor
set_option maxRecDepth 100000
set_option maxHeartbeats 20000000
open Go.RowKit Go.Tab
def ML (w0 : World) (g : Nat) (lv : Value) (s : ByteArray) (l : List Tok) (k d m : Nat) (R : GotX) (v : Value) (wr : World) : Prop :=
 Save g w0 wr /\ ∃ (L : List (Exp × List Value)) (j k' : Nat), RowX w0.heap.size wr v L /\ InX w0.heap.size wr v L /\ j <= m /\ Prs wr g lv l k' /\ k <= k' /\ L.length <= k' /\
  R = upX (k' - k) (parX j (.mloop s (L.map (·.1))) (l.drop k') d)
theorem many_step (m : Nat) (hC : ∀ j, j <= m -> ChoiceC j) : ManyC (m + 1) := by
 intro w g lv l k d s h hlen hd hs12 hne; obtain ⟨a0, c0, rfl, hl1, hl2, -⟩ := h.toks.len; unfold maxLen at hl2; have hkl := h.le; have hsm := h.small; have hgw := h.box.lt; obtain ⟨R, hRR⟩ : ∃ R, R = parX (m + 1) (.many s) (l.drop k) d := ⟨_, rfl⟩; rw [<- hRR] at hne ⊢; rw [parX] at hRR
 by_cases hd6 : 64 <= d
 ·rw [if_pos hd6] at hRR
  have HRR := Lib.hid hRR; clear hRR hne; have hN := into_no w g _ k d h.box hd6; go_enter Tryz.func238, Tryz.ntmps238; go_wp2_with fail; refine hN.mono ?_; rintro _ w2 ⟨rfl, hc2, hs2⟩; have H2 := Lib.hid (And.intro hc2 hs2); clear hc2 hs2 hN; go_wp2; go_ret; rw [HRR.out]; exact ⟨H2.out.2, H2.out.1, _, _, _, rfl, fun h => by cases h⟩
 ·rw [if_neg hd6, List.drop_drop] at hRR
  rw [List.length_drop] at hlen; have hk1 : k + 1 <= l.length := by omega
  have hN := into_yes w g _ k d h.box (by omega) (by omega); go_enter Tryz.func238, Tryz.ntmps238; go_wp2_with fail; refine hN.mono ?_; rintro _ w2 ⟨rfl, hc2, hs2⟩; have h2 : Prs w2 g (.slice a0 l.length c0) l (k + 1) := h.go hs2 hc2 hk1; have hI := is_ok w2 g _ l (k + 1) s h2; clear hN hc2
  by_cases s1 : isS (l.drop (k + 1)) s = true
  ·rw [if_pos s1] at hRR
   rw [s1] at hI; have HRR := Lib.hid hRR; clear hRR hne; go_wp2_with fail; refine hI.mono ?_; rintro _ w3 ⟨rfl, hb3⟩; have hc3 := h2.box.below hb3 h2.box.lt; have hs3 := hs2.trans (Save.of hb3); have H3 := Lib.hid (And.intro (hc3.setI 1 (.int .i64 (((k + 1 : Nat) : Int) + 1))) (hs3.set 1 (.int .i64 (((k + 1 : Nat) : Int) + 1)))); have hlt := hc3.lt; clear hs2 hI hb3 h2 hs3; have hc3c0 := hc3.cell 0 _ rfl; have hc3f0 := hc3.frozen 0; have hc3c1 := hc3.cell 1 _ rfl; have hc3f1 := hc3.frozen 1; have hc3c2 := hc3.cell 2 _ rfl; have hc3f2 := hc3.frozen 2; clear hc3; go_wp2; go_ret; rw [HRR.out]; exact ⟨H3.out.2, H3.out.1, _, _, _, rfl, fun _ o t => ExpIn.leaf _ _ o t⟩
  ·have s1f : isS (l.drop (k + 1)) s = false := by simpa using s1
   rw [if_neg s1] at hRR; rw [s1f] at hI; go_wp2_with fail; refine hI.mono ?_; rintro _ w3 ⟨rfl, hb3⟩; have h3 := h2.step hb3; have hs3 := hs2.trans (Save.of hb3)
   have hML : ML w g (.slice a0 l.length c0) s l k d m R (.slice none 0 0) w3 := by
    refine ⟨hs3, [], m, k + 1, RowX.nil _ _, (by intro s hs; cases hs), Nat.le_refl _, h3, by omega, Nat.zero_le _, ?_⟩; rw [hRR, show k + 1 - k = 1 by omega]; rfl
   have HML := Lib.hid hML; clear hML hs3 h3 hb3 hI h2 hs2 hRR; go_wp2_with fail; go_loopw [7] (fun v wr => ML w g (.slice a0 l.length c0) s l k d m R v wr) (fun _ wr => l.length + 1 - posOf wr g)
   case atStart => exact HML.out
   case round =>
    clear HML; obtain ⟨hsv, L, j, k', hrow, hin, hj, h5, hkk, hLk, hRe⟩ := hrel; obtain ⟨va, vc, rfl⟩ := hrow.len
    cases j with
    | zero => rw [hRe] at hne; exact absurd rfl hne
    | succ j =>
    rw [parX] at hRe; simp only [List.drop_drop] at hRe; have hkl5 := h5.le; have HPO := Lib.hid h5.box.pos
    have hr2 : (parX j .choice (l.drop k') (d + 1)).2.2 ≠ -1 := by
     have hne2 := hne; rw [hRe] at hne2; exact andX_ne hne2
    have hle2 := (parX_le j .choice (l.drop k') (d + 1) (by simp only [Nt.okX]) hr2).1; rw [List.length_drop] at hle2; have hCC := hC j (by omega) wr g (.slice a0 l.length c0) l k' (d + 1) h5 (by omega) hr2; rw [show ((d + 1 : Nat) : Int) = (d : Int) + 1 by omega] at hCC; generalize parX j .choice (l.drop k') (d + 1) = r2 at *; obtain ⟨x2, n2, e2⟩ := r2; simp only at hle2 hr2; have HRe := Lib.hid hRe; clear hRe; go_wp2_with fail; refine hCC.mono ?_; rintro _ w6 ⟨hs6, hc6, o2, t2, a2, m2, c2, rfl, hX2⟩; simp only at hc6 hX2; have hrow6 := hrow.save hs6 hgw; have hin6 := hin.save hs6 hgw; have hz6 := hs6.size; have hz0 := hsv.size; have hsv6 := hsv.trans hs6
    have hP6 : e2 = 0 -> Prs w6 g (.slice a0 l.length c0) l (k' + n2) := fun he => by
     subst he; exact h5.go hs6 hc6 (by omega)
    have hvl : ∀ b, (Value.slice va L.length vc).ownBlock = some b -> b < wr.heap.size := fun b hb => (World.ownsRow.lt hrow.2 b hb).2
    have hX6 : e2 = 0 -> ExpIn (fun b => w.heap.size <= b /\ some b ≠ (Value.slice va L.length vc).ownBlock) w6 x2 (expV o2 t2 (.slice a2 m2 c2)) := fun he =>
     ExpIn.move (Nat.le_refl _) (fun _ _ _ => rfl) (fun b hb _ => ⟨by omega, fun e => by have := hvl b e.symm; omega⟩) x2 _ (hX2 he)
    clear hCC hrow hin hsv hs6 hX2; go_wp2_with (with_reducible first | refine stop_append ?_)
    refine Stop.out ?_; have hbA : Below w6.heap.size w6 (w6.alloc (.cells #[.string o2, .string t2, .slice a2 m2 c2] 52)) := (Below.refl _ _).alloc (Nat.le_refl _) _; have hcA := hc6.below hbA hc6.lt; have hrowA := hrow6.keep (fun b _ hlt => hbA.block b hlt); have hinA := hin6.keep hbA.size (fun b _ hlt => hbA.block b hlt); have hXA := fun he => ExpIn.below hbA x2 _ (hX6 he); have hzA : (w6.alloc (.cells #[.string o2, .string t2, .slice a2 m2 c2] 52)).heap.size = w6.heap.size + 1 := by simp
    have hsvA := hsv6.trans (Save.of hbA); refine wpList_append_exp rfl _ _ rfl w.heap.size L (by exact hrowA) w6.heap.size rfl x2 o2 t2 a2 m2 c2 (Cells.new _ _ _) (by omega) (by omega) _ rfl ?_; intro gb cap w7 hrow7 hg7 hat7 hge7; have hin7 : e2 = 0 -> InX w.heap.size w7 (.slice (some ⟨gb, 0, none⟩) (L.length + 1) cap) (L ++ [(x2, expV o2 t2 (.slice a2 m2 c2))]) := fun he => InX.push hinA (hXA he) hg7 hat7; have hsv7 : Save g w w7 := hsvA.grown hg7 (fun b hb => (World.ownsRow.lt hrowA.2 b hb).1); have hc7 : PrC w7 g (.slice a0 l.length c0) ((k' + n2 : Nat)) e2 := hcA.kept hg7 (fun e => by have := (World.ownsRow.lt hrowA.2 g e.symm).1; omega)
    have hP7 : e2 = 0 -> Prs w7 g (.slice a0 l.length c0) l (k' + n2) := fun he => by
     subst he; exact h.go hsv7 hc7 (by omega)
    clear hbA hcA hrowA hinA hXA hzA hsvA hg7 hat7 hge7 hc6 hrow6 hin6 hX6 hP6 hsv6 hvl h5 hz6
    by_cases he2 : e2 = 0
    ·subst he2
     have hRe := HRe.out; rw [andX_ok (by rfl)] at hRe
     replace hP7 := hP7 rfl
     replace hin7 := hin7 rfl
     have hI := is_ok w7 g _ l (k' + n2) sComma hP7
     by_cases s2 : isS (l.drop (k' + n2)) sComma = true
     ·have hk2 : k' + n2 + 1 <= l.length := by have := isS_some s2; rw [List.length_drop] at this; omega
      have hRe2 : R = upX (k' + n2 + 1 - k) (parX j (.mloop s ((L ++ [(x2, expV o2 t2 (.slice a2 m2 c2))]).map (·.1))) (l.drop (k' + n2 + 1)) d) := by
       rw [hRe]; show upX (k' - k) (if isS (l.drop (k' + n2)) sComma = true then _ else _) = _; rw [if_pos s2, upX_upX, show k' - k + (n2 + 1) = k' + n2 + 1 - k by omega]; simp only [List.map_append, List.map_cons, List.map_nil]; rfl
      rw [s2] at hI; have HRe := Lib.hid hRe2; clear hRe hRe2; go_wp2_with fail; refine hI.mono ?_; rintro _ w8 ⟨rfl, hb8⟩; have hc8 := hP7.box.below hb8 hP7.box.lt; have hs8 := Save.of (g := g) hb8; have hc9 : PrC (w8.setCell ⟨g, 1, none⟩ (.int .i64 ((k' : Int) + (n2 : Int) + 1))) g (.slice a0 l.length c0) ((k' + n2 + 1 : Nat)) 0 := hc8.setI 1 (.int .i64 ((k' : Int) + (n2 : Int) + 1)); have hs9 : Save g w7 (w8.setCell ⟨g, 1, none⟩ (.int .i64 ((k' : Int) + (n2 : Int) + 1))) := hs8.set 1 _; have H9 := Lib.hid (And.intro hc9 (And.intro (hsv7.trans hs9) (And.intro (hrow7.save hs9 hgw) (hin7.save hs9 hgw)))); have hlt := hc8.lt; clear hc9 hs9 hs8 hb8 hI hP7 hin7 hrow7 hsv7 hc7; have hc8c0 := hc8.cell 0 _ rfl; have hc8f0 := hc8.frozen 0; have hc8c1 := hc8.cell 1 _ rfl; have hc8f1 := hc8.frozen 1; have hc8c2 := hc8.cell 2 _ rfl; have hc8f2 := hc8.frozen 2; clear hc8; go_wp2_with fail; obtain ⟨hc9, hsv9, hrow9, hin9⟩ := H9.out; constructor
      ·refine ⟨hsv9, _, j, k' + n2 + 1, hrow9, hin9, by omega, h.go hsv9 hc9 hk2, by omega, by simp; omega, HRe.out⟩
      ·have hp9 := PrC.pos hc9
       rw [hp9, HPO.out]; omega
     ·have s2f : isS (l.drop (k' + n2)) sComma = false := by simpa using s2
      rw [s2f] at hI
      have hRe2 : R = upX (k' - k) (if isS (l.drop (k' + n2)) s = true then (.mk oNo oNo ((L ++ [(x2, expV o2 t2 (.slice a2 m2 c2))]).map (·.1)), n2 + 1, 0) else badX (l.drop (k' + n2)) n2) := by
       rw [hRe]; show upX (k' - k) (if isS (l.drop (k' + n2)) sComma = true then _ else _) = _; rw [if_neg s2]; simp only [List.map_append, List.map_cons, List.map_nil]
      clear hRe; go_wp2_with fail; refine hI.mono ?_; rintro _ w8 ⟨rfl, hb8⟩; have hP8 := hP7.step hb8; have hsv8 := hsv7.trans (Save.of hb8); have hrow8 := hrow7.save (Save.of (g := g) hb8) hgw; have hin8 := hin7.save (Save.of (g := g) hb8) hgw; clear hP7 hsv7 hrow7 hin7 hb8 hI; have hN := need_ok w8 g _ l (k' + n2) s hP8; go_wp2_with fail; refine hN.mono ?_; rintro _ w9 ⟨rfl, hc9, hs9⟩; have H9 := Lib.hid (And.intro hc9 (And.intro (hsv8.trans hs9) (And.intro (hrow8.save hs9 hgw) (hin8.save hs9 hgw)))); have HR2 := Lib.hid hRe2; clear hc9 hs9 hsv8 hrow8 hin8 hN hP8 hRe2 hc7; go_wp2; go_ret; obtain ⟨hc9, hsv9, hrow9, hin9⟩ := H9.out; have hRe2 := HR2.out
      by_cases s3 : isS (l.drop (k' + n2)) s = true
      ·rw [if_pos s3] at hRe2
       rw [s3, if_pos rfl, if_pos rfl] at hc9; rw [hRe2]; refine ⟨hsv9, ?_, _, _, _, rfl, fun _ => kidsX_row hrow9 hin9⟩; show PrC _ g _ ((k + (k' - k + (n2 + 1)) : Nat)) 0; rw [show k + (k' - k + (n2 + 1)) = k' + n2 + 1 by omega]; exact hc9
      ·have s3f : isS (l.drop (k' + n2)) s = false := by simpa using s3
       rw [if_neg s3, badX_e] at hRe2; rw [s3f, if_neg (by simp), if_neg (by simp)] at hc9; rw [hRe2]; refine ⟨hsv9, ?_, _, _, _, rfl, fun e => absurd e (wrE_ne _)⟩; show PrC _ g _ ((k + (k' - k + n2) : Nat)) (wrE _); rw [show k + (k' - k + n2) = k' + n2 by omega]; exact hc9
    ·have hRe := HRe.out
     rw [andX_bad (by exact he2)] at hRe; have HR2 := Lib.hid hRe; have hI := is_no2 w7 g _ _ e2 sComma hc7 he2 ⟨_, _, _, rfl⟩; clear hRe hP7 hin7 hrow7; go_wp2_with fail; refine hI.mono ?_; rintro _ w8 ⟨rfl, hc8, hs8⟩; have hN := need_no2 w8 g _ _ e2 s hc8 he2 ⟨_, _, _, rfl⟩; have hsv8 := hsv7.trans hs8; clear hI hs8 hsv7 hc7 hc8; go_wp2_with fail; refine hN.mono ?_; rintro _ w9 ⟨rfl, hc9, hs9⟩; have H9 := Lib.hid (And.intro hc9 (hsv8.trans hs9)); clear hc9 hs9 hsv8 hN; go_wp2; go_ret; rw [HR2.out]; refine ⟨H9.out.2, ?_, _, _, _, rfl, fun e => absurd e he2⟩; show PrC _ g _ ((k + (k' - k + n2) : Nat)) e2; rw [show k + (k' - k + n2) = k' + n2 by omega]; exact H9.out.1
theorem quo_parse (s : ByteArray) : (quoX s = none /\ ∃ x e, parseV (parseQ (bs s)) = .tuple #[.string x, .int .i64 e] /\ e ≠ 0) \/ ∃ x, quoX s = some x /\ parseV (parseQ (bs s)) = .tuple #[.string x, .int .i64 0] := by
 have hb : bs s = nb s.data.toList := rfl; have hB : Byt (nb s.data.toList) := nb_byt _; have hl : (nb s.data.toList).length = s.size := by rw [<- hb, bs_length]
 unfold quoX parseQ parseV; rw [hb]
 by_cases h1 : (scanQ (nb s.data.toList)).2.2 = 0
 ·have hz := (scanQ_size hB h1).2
  have h1n : ¬ (scanQ (nb s.data.toList)).2.2 ≠ 0 := fun h => h h1
  by_cases h2 : (scanQ (nb s.data.toList)).2.1 = s.size
  ·right
   have h3 : ¬ (scanQ (nb s.data.toList)).2.1 < (nb s.data.toList).length := by omega
   rw [if_pos ⟨h1, h2⟩, if_neg h1n, if_neg h3]; exact ⟨_, rfl, rfl⟩
  ·left
   have h3 : (scanQ (nb s.data.toList)).2.1 < (nb s.data.toList).length := by omega
   have h4 : ¬ ((scanQ (nb s.data.toList)).2.2 = 0 /\ (scanQ (nb s.data.toList)).2.1 = s.size) := fun h => h2 h.2; rw [if_neg h4, if_neg h1n, if_pos h3]; exact ⟨rfl, _, _, rfl, by decide⟩
 ·left
  have h4 : ¬ ((scanQ (nb s.data.toList)).2.2 = 0 /\ (scanQ (nb s.data.toList)).2.1 = s.size) := fun h => h1 h.1; rw [if_neg h4, if_pos h1]; exact ⟨rfl, _, _, rfl, by simp only; omega⟩
structure Pm (w0 : World) (q tb g : Nat) (t : Tok) (w : World) : Prop where
 rs : Rs w0 q g w
 tok : Cells w tb #[.int .i64 t.kind, .string t.text, .int .i64 t.pos] 63
 tbg : tb ≠ g
 tb0 : w0.heap.size <= tb
 tbq : tb ≠ q
theorem Pm.step {w0 w w' : World} {q tb g : Nat} {t : Tok} (h : Pm w0 q tb g t w) (hs : Save g w w') : Pm w0 q tb g t w' :=
 ⟨h.rs.step hs, hs.cells h.tok h.tbg, h.tbg, h.tb0, h.tbq⟩
theorem PrC.below' {w w' : World} {g : Nat} {lv : Value} {k e : Int} (h : PrC w g lv k e) (hb : Below w.heap.size w w') : PrC w' g lv k e := Cells.below h hb h.lt
theorem prime_step (m : Nat) (hM : ManyC m) (hC : ChoiceC m) : PrimeC (m + 1) := by
 intro w g lv l k d h hd hne; obtain ⟨a0, c0, rfl, hl1, hl2, -⟩ := h.toks.len; unfold maxLen at hl2; have hkl := h.le; have hsm := h.small; have hgw := h.box.lt; have H0 := Lib.hid h; have hR := Rs.start h; have h1 := h.step ((Below.refl _ w).alloc (Nat.le_refl _) (.cells zeroC 52)); have hz1 : (w.alloc (.cells zeroC 52)).heap.size = w.heap.size + 1 := by simp
 obtain ⟨R, hRR⟩ : ∃ R, R = parX (m + 1) .prime (l.drop k) d := ⟨_, rfl⟩; rw [<- hRR] at hne ⊢; go_enter Tryz.func236, Tryz.ntmps236; go_wp2_with fail; generalize w.alloc (.cells zeroC 52) = w1 at hR h1 hz1 ⊢; have hbox := h1.box; have hbl := hbox.lt
 by_cases hk : k = l.length
 ·have hq : ((k : Int) == (l.length : Int)) = true := by rw [beq_iff_eq]; omega
  have hW := fun n => wrong_ok (w1.drewN n) g _ l k (h1.step (below_draws w1.heap.size w1 n)); rw [hk, List.drop_length, parX, badX_e] at hRR; have hdr : l.drop k = [] := by rw [hk, List.drop_length]
  rw [hdr] at hW; have hw2 : wrE [] ≠ 0 := wrE_ne _; generalize wrE [] = ee at *; have HRR := Lib.hid (And.intro hRR hw2); clear hRR hw2 hdr hk h1; have hboxc0 := hbox.cell 0 _ rfl; have hboxf0 := hbox.frozen 0; have hboxc1 := hbox.cell 1 _ rfl; have hboxf1 := hbox.frozen 1; have hboxc2 := hbox.cell 2 _ rfl; have hboxf2 := hbox.frozen 2; clear hbox; go_quiet (fail)
  go_wp2_with fail; refine (hW _).mono ?_; rintro _ w2 ⟨rfl, hc9, hs2⟩; have hR9 := hR.step (((Save.refl g w1).drewN _).trans hs2); have hres := hR9.res; have hrl := hres.lt; have HR := Lib.hid (And.intro hR9 hc9); clear hR hs2 hW hboxc0 hboxc1 hboxc2 hboxf0 hboxf1 hboxf2 hR9 hc9; have hresc0 := hres.cell 0 _ rfl; have hresf0 := hres.frozen 0; have hresc1 := hres.cell 1 _ rfl; have hresf1 := hres.frozen 1; have hresc2 := hres.cell 2 _ rfl; have hresf2 := hres.frozen 2; clear hres; go_wp2; obtain ⟨hR9, hc9⟩ := HR.out; have hq := ((hR9.res.setI 0 (.string ⟨#[]⟩)).setI 1 (.string ⟨#[]⟩)).setI 2 (.slice none 0 0); have hx := hq.cell 0 _ rfl; have hy := hq.cell 1 _ rfl; have hz := hq.cell 2 _ rfl; refine bodyPost_ret (v := .agg #[.string ⟨#[]⟩, .string ⟨#[]⟩, .slice none 0 0]) (by simp [results, Tryz.results236, go_sem, hx, hy, hz]) rfl ?_; have hS9 := hR9.fin [.string ⟨#[]⟩, .string ⟨#[]⟩, .slice none 0 0]; have hP9 := hR9.prc hc9 [.string ⟨#[]⟩, .string ⟨#[]⟩, .slice none 0 0]; show XP g (.slice a0 l.length c0) k _ w _ (setAll w2 w.heap.size 0 [.string ⟨#[]⟩, .string ⟨#[]⟩, .slice none 0 0]); rw [HRR.out.1]; exact ⟨hS9, hP9, _, _, _, _, _, rfl, fun e => absurd e HRR.out.2⟩
 ·have hkl2 : k < l.length := by omega
  have hq : ((k : Int) == (l.length : Int)) = false := by rw [beq_eq_false_iff_ne]; omega
  obtain ⟨tb, tof, hte, htb, c0', c1', c2'⟩ := ToksAt.get h1.toks hkl2; have hdc : l.drop k = l[k] :: l.drop (k + 1) := List.drop_eq_getElem_cons hkl2; rw [hdc, parX, <- hdc] at hRR; have hsh := h1.short _ (List.getElem_mem hkl2); cases hte
  generalize l[k] = t at *; have hbx := hbox; have hbxc0 := hbx.cell 0 _ rfl; have hbxf0 := hbx.frozen 0; have hbxc1 := hbx.cell 1 _ rfl; have hbxf1 := hbx.frozen 1; have hbxc2 := hbx.cell 2 _ rfl; have hbxf2 := hbx.frozen 2; go_quiet (fail)
  go_wp2_with fail; have ha : ∀ (n b' o' : Nat) (u : Value), b' < w1.heap.size -> w1.cell? ⟨b', o', none⟩ = some u -> ((w1.drewN n).alloc (.cells #[.int .i64 0, .string ⟨#[]⟩, .int .i64 0] 63)).cell? ⟨b', o', none⟩ = some u := fun n b' o' u h1 h2 => (World.cell?_alloc_past _ _ _ h1).trans h2; have ha0 := fun n => ha n _ _ _ hbl hbxc0; have ha1 := fun n => ha n _ _ _ hbl hbxc1; have hb0 := fun n => ha n _ _ _ htb c0'; have hb1 := fun n => ha n _ _ _ htb c1'; have hb2 := fun n => ha n _ _ _ htb c2'; have hn := fun n => Cells.new (w1.drewN n) #[.int .i64 0, .string ⟨#[]⟩, .int .i64 0] 63; have hn0 : ∀ n, ((w1.drewN n).alloc (.cells #[.int .i64 0, .string ⟨#[]⟩, .int .i64 0] 63)).cell? ⟨w1.heap.size, 0, none⟩ = some (.int .i64 0) := fun n => (hn n).cell 0 _ rfl; have hn1 : ∀ n, ((w1.drewN n).alloc (.cells #[.int .i64 0, .string ⟨#[]⟩, .int .i64 0] 63)).cell? ⟨w1.heap.size, 1, none⟩ = some (.string ⟨#[]⟩) := fun n => (hn n).cell 1 _ rfl; have hn2 : ∀ n, ((w1.drewN n).alloc (.cells #[.int .i64 0, .string ⟨#[]⟩, .int .i64 0] 63)).cell? ⟨w1.heap.size, 2, none⟩ = some (.int .i64 0) := fun n => (hn n).cell 2 _ rfl; have hm0 : ∀ n, ((w1.drewN n).alloc (.cells #[.int .i64 0, .string ⟨#[]⟩, .int .i64 0] 63)).frozen? ⟨w1.heap.size, 0, none⟩ = false := fun n => (hn n).frozen 0; have hm1 : ∀ n, ((w1.drewN n).alloc (.cells #[.int .i64 0, .string ⟨#[]⟩, .int .i64 0] 63)).frozen? ⟨w1.heap.size, 1, none⟩ = false := fun n => (hn n).frozen 1; have hm2 : ∀ n, ((w1.drewN n).alloc (.cells #[.int .i64 0, .string ⟨#[]⟩, .int .i64 0] 63)).frozen? ⟨w1.heap.size, 2, none⟩ = false := fun n => (hn n).frozen 2
  have HRR := Lib.hid hRR; have H1 := Lib.hid (And.intro h1 (And.intro hR (And.intro hsh hdc))); clear hRR h1 hR hsh hdc hbox H0; go_region
  have hbe : Below w1.heap.size w1 ((w1.drewN (nq + 1)).alloc (.cells #[.int .i64 t.kind, .string t.text, .int .i64 t.pos] 63)) := (below_draws w1.heap.size w1 (nq + 1)).alloc (Nat.le_refl _) _; have hcl := Cells.new (w1.drewN (nq + 1)) #[.int .i64 t.kind, .string t.text, .int .i64 t.pos] 63; rw [show (w1.drewN (nq + 1)).heap.size = w.heap.size + 1 from hz1] at hcl; generalize (w1.drewN (nq + 1)).alloc (.cells #[.int .i64 t.kind, .string t.text, .int .i64 t.pos] 63) = w2 at hbe hcl ⊢; obtain ⟨h1, hR, hsh, hdc⟩ := H1.out; have h2 := h1.step hbe; have hC9 : Pm w w.heap.size (w.heap.size + 1) g t w2 := ⟨hR.below hbe, hcl, by omega, by omega, by omega⟩; clear H1 h1 hR hbe hcl ha ha0 ha1 hb0 hb1 hb2 hn hn0 hn1 hn2 hm0 hm1 hm2 c0' c1' c2' hbxc0 hbxc1 hbxc2 hbxf0 hbxf1 hbxf2 hbx hbl htb hq; have hR2 := HRR.out
  by_cases k1 : t.kind = 1
  ·rw [if_pos k1] at hR2
   have kb : (t.kind == 1) = true := by rw [beq_iff_eq]; exact k1
   have hs6 : Save g w2 (w2.setCell ⟨g, 1, none⟩ (.int .i64 ((k : Int) + 1))) := (Save.refl g w2).set 1 _; have hc6 : PrC (w2.setCell ⟨g, 1, none⟩ (.int .i64 ((k : Int) + 1))) g (.slice (some ⟨tb, tof, none⟩) l.length c0) ((k + 1 : Nat)) 0 := h2.box.setI 1 (.int .i64 ((k : Int) + 1)); have h6 : Prs (w2.setCell ⟨g, 1, none⟩ (.int .i64 ((k : Int) + 1))) g (.slice (some ⟨tb, tof, none⟩) l.length c0) l (k + 1) := h2.go hs6 hc6 hkl2; have H6 := Lib.hid (And.intro (hC9.step hs6) h6); have hc9 := h2.box; have K1 := Lib.hid k1; have HR1 := Lib.hid hR2; clear hs6 hc6 h6 h2 k1 HRR hR2; have hres := hC9.rs.res; have hrl := hres.lt; have hfi := hC9.tok; have hfl := hfi.lt; have hgl := hc9.lt; have HR := Lib.hid (And.intro hC9 hc9); have hresc0 := hres.cell 0 _ rfl; have hresf0 := hres.frozen 0; have hresc1 := hres.cell 1 _ rfl; have hresf1 := hres.frozen 1; have hresc2 := hres.cell 2 _ rfl; have hresf2 := hres.frozen 2; have hfic0 := hfi.cell 0 _ rfl; have hfif0 := hfi.frozen 0; have hfic1 := hfi.cell 1 _ rfl; have hfif1 := hfi.frozen 1; have hfic2 := hfi.cell 2 _ rfl; have hfif2 := hfi.frozen 2; have hc9c0 := hc9.cell 0 _ rfl; have hc9f0 := hc9.frozen 0; have hc9c1 := hc9.cell 1 _ rfl; have hc9f1 := hc9.frozen 1; have hc9c2 := hc9.cell 2 _ rfl; have hc9f2 := hc9.frozen 2; clear hC9 hc9 hres hfi; go_wp2_with fail; obtain ⟨hC9, hc9⟩ := HR.out; clear HR hrl hfl hgl hresc0 hresc1 hresc2 hresf0 hresf1 hresf2 hfic0 hfic1 hfic2 hfif0 hfif1 hfif2 hc9c0 hc9c1 hc9c2 hc9f0 hc9f1 hc9f2; clear hC9 hc9
   obtain ⟨hC9, h6⟩ := H6.out; clear H6; generalize w2.setCell ⟨g, 1, none⟩ (.int .i64 ((k : Int) + 1)) = w3 at *; have hI := is_ok w3 g _ l (k + 1) sLp h6; have hR2 := HR1.out; clear HR1
   by_cases s1 : isS (l.drop (k + 1)) sLp = true
   ·rw [if_pos s1] at hR2
    rw [s1] at hI
    have hr1 : (parX m (.many sRp) (l.drop (k + 1)) d).2.2 ≠ -1 := by
     have hne2 := hne; rw [hR2] at hne2; exact andX_ne (g := upX 1 (parX m (.many sRp) (l.drop (k + 1)) d)) hne2
    have hMM := fun w3 h3 => hM w3 g (.slice (some ⟨tb, tof, none⟩) l.length c0) l (k + 1) d sRp h3 (isS_some s1) hd (.inl rfl) hr1; generalize parX m (.many sRp) (l.drop (k + 1)) d = r1 at *; obtain ⟨x1, n1, e1⟩ := r1; simp only at hMM hr1; have HR2 := Lib.hid hR2; clear hR2; refine hI.mono ?_; rintro _ w4 ⟨rfl, hb4⟩; have h4 := h6.step hb4
    replace hC9 := hC9.step (Save.of hb4)
    have hMD := hMM w4.drew (h4.step ((Below.refl _ _).drew)); clear hMM hI h6 hb4; have hC4 := Lib.hid hC9; have hfi := hC9.tok; have hfl := hfi.lt; have hz4 := hC9.rs.save.size; clear hC9; have hfic0 := hfi.cell 0 _ rfl; have hfif0 := hfi.frozen 0; have hfic1 := hfi.cell 1 _ rfl; have hfif1 := hfi.frozen 1; have hfic2 := hfi.cell 2 _ rfl; have hfif2 := hfi.frozen 2; go_wp2_with fail
    go_region_law (first
     | (go_simp; go_at_call 238; refine hMD.mono ?_; rintro _ w5 ⟨hs5, hc5, ya, yn, yc, rfl, hX5⟩; have hfi5 := hs5.cells hfi.drew (by omega); have hfl5 := hfi5.lt; have hg0 := hfi5.cell 1 _ rfl; have hres := (hC4.out.step ((Save.refl g w4).drew.trans hs5)).rs.res; have hrl := hres.lt; have hr0 := hres.cell 0 _ rfl; have hr1' := hres.cell 1 _ rfl; have hr2' := hres.cell 2 _ rfl; have hv0 := hres.frozen 0; have hv1 := hres.frozen 1; have hv2 := hres.frozen 2; have H5 := Lib.hid (And.intro hs5 (And.intro hc5 hX5)); clear hs5 hc5 hX5 hres hfi5))
    all_goals
     go_wp2; obtain ⟨hs5, hc9, hX5⟩ := H5.out; have hsD := (Save.refl g w4).drew.trans hs5; have hR9 := (hC4.out.step hsD).rs; have hq := ((hR9.res.setI 0 (.string oCall)).setI 1 (.string t.text)).setI 2 (.slice ya yn yc); have hx := hq.cell 0 _ rfl; have hy := hq.cell 1 _ rfl; have hz := hq.cell 2 _ rfl; refine bodyPost_ret (v := .agg #[.string oCall, .string t.text, .slice ya yn yc]) (by simp [results, Tryz.results236, go_sem, hx, hy, hz]) rfl ?_; have hS9 := hR9.fin [.string oCall, .string t.text, .slice ya yn yc]; have hP9 := hR9.prc hc9 [.string oCall, .string t.text, .slice ya yn yc]; show XP g (.slice (some ⟨tb, tof, none⟩) l.length c0) k _ w _ (setAll w5 w.heap.size 0 [.string oCall, .string t.text, .slice ya yn yc]); have hR2 := HR2.out; have hzz : w.heap.size < w4.drew.heap.size := by show w.heap.size < w4.heap.size; omega
     by_cases he : e1 = 0
     ·subst he
      rw [andX_ok (by rfl)] at hR2; simp only [upX] at hR2; rw [hR2]; rw [show k + 1 + n1 = k + (1 + n1) by omega] at hP9; exact ⟨hS9, hP9, _, _, _, _, _, rfl, fun _ => ExpIn.keep (Nat.le_of_lt hzz) hzz (hX5 rfl oCall t.text)⟩
     ·rw [andX_bad (by exact he)] at hR2
      simp only [upX] at hR2; rw [hR2]; rw [show k + 1 + n1 = k + (1 + n1) by omega] at hP9; exact ⟨hS9, hP9, _, _, _, _, _, rfl, fun h => absurd h he⟩
   ·have s1f : isS (l.drop (k + 1)) sLp = false := by simpa using s1
    rw [if_neg s1] at hR2; rw [s1f] at hI; have HR2 := Lib.hid hR2; clear hR2; refine hI.mono ?_; rintro _ w4 ⟨rfl, hb4⟩; have hc9 := h6.box.below hb4 h6.box.lt
    replace hC9 := hC9.step (Save.of hb4)
    clear hI h6 hb4; have hres := hC9.rs.res; have hrl := hres.lt; have hfi := hC9.tok; have hfl := hfi.lt; have hgl := hc9.lt; have HR := Lib.hid (And.intro hC9 hc9); have hresc0 := hres.cell 0 _ rfl; have hresf0 := hres.frozen 0; have hresc1 := hres.cell 1 _ rfl; have hresf1 := hres.frozen 1; have hresc2 := hres.cell 2 _ rfl; have hresf2 := hres.frozen 2; have hfic0 := hfi.cell 0 _ rfl; have hfif0 := hfi.frozen 0; have hfic1 := hfi.cell 1 _ rfl; have hfif1 := hfi.frozen 1; have hfic2 := hfi.cell 2 _ rfl; have hfif2 := hfi.frozen 2; have hc9c0 := hc9.cell 0 _ rfl; have hc9f0 := hc9.frozen 0; have hc9c1 := hc9.cell 1 _ rfl; have hc9f1 := hc9.frozen 1; have hc9c2 := hc9.cell 2 _ rfl; have hc9f2 := hc9.frozen 2; clear hC9 hc9 hres hfi; go_wp2; obtain ⟨hC9, hc9⟩ := HR.out; have hR9 := hC9.rs; have hq := ((hR9.res.setI 0 (.string oName)).setI 1 (.string t.text)).setI 2 (.slice none 0 0); have hx := hq.cell 0 _ rfl; have hy := hq.cell 1 _ rfl; have hz := hq.cell 2 _ rfl; refine bodyPost_ret (v := .agg #[.string oName, .string t.text, .slice none 0 0]) (by simp [results, Tryz.results236, go_sem, hx, hy, hz]) rfl ?_; have hS9 := hR9.fin [.string oName, .string t.text, .slice none 0 0]; have hP9 := hR9.prc hc9 [.string oName, .string t.text, .slice none 0 0]; show XP g (.slice (some ⟨tb, tof, none⟩) l.length c0) k _ w _ (setAll w4 w.heap.size 0 [.string oName, .string t.text, .slice none 0 0]); rw [HR2.out]; exact ⟨hS9, hP9, _, _, _, _, _, rfl, fun _ => ExpIn.leaf _ _ oName t.text⟩
  ·have kb1 : (t.kind == 1) = false := by rw [beq_eq_false_iff_ne]; exact k1
   rw [if_neg k1] at hR2; have K1 := Lib.hid k1; clear k1 HRR
   by_cases k2 : t.kind = 2
   ·rw [if_pos k2] at hR2
    have kb : (t.kind == 2) = true := by rw [beq_iff_eq]; exact k2
    have HR2 := Lib.hid hR2; have H9 := Lib.hid (h2.box.setI 1 (.int .i64 ((k : Int) + 1))); have K2 := Lib.hid k2; have hc9 := h2.box; have hS5 := Lib.hid (hC9.step ((Save.refl g w2).set 1 (.int .i64 ((k : Int) + 1)))); clear hR2 k2 h2; have hres := hC9.rs.res; have hrl := hres.lt; have hfi := hC9.tok; have hfl := hfi.lt; have hgl := hc9.lt; have HR := Lib.hid (And.intro hC9 hc9); have hresc0 := hres.cell 0 _ rfl; have hresf0 := hres.frozen 0; have hresc1 := hres.cell 1 _ rfl; have hresf1 := hres.frozen 1; have hresc2 := hres.cell 2 _ rfl; have hresf2 := hres.frozen 2; have hfic0 := hfi.cell 0 _ rfl; have hfif0 := hfi.frozen 0; have hfic1 := hfi.cell 1 _ rfl; have hfif1 := hfi.frozen 1; have hfic2 := hfi.cell 2 _ rfl; have hfif2 := hfi.frozen 2; have hc9c0 := hc9.cell 0 _ rfl; have hc9f0 := hc9.frozen 0; have hc9c1 := hc9.cell 1 _ rfl; have hc9f1 := hc9.frozen 1; have hc9c2 := hc9.cell 2 _ rfl; have hc9f2 := hc9.frozen 2; clear hC9 hc9 hres hfi; go_wp2; obtain ⟨hC9, hc9⟩ := HR.out; clear HR hrl hfl hgl hresc0 hresc1 hresc2 hresf0 hresf1 hresf2 hfic0 hfic1 hfic2 hfif0 hfif1 hfif2 hc9c0 hc9c1 hc9c2 hc9f0 hc9f1 hc9f2; clear hC9 hc9; have hR9 := hS5.out.rs; have hc9 : PrC (w2.setCell ⟨g, 1, none⟩ (.int .i64 ((k : Int) + 1))) g (.slice (some ⟨tb, tof, none⟩) l.length c0) ((k + 1 : Nat)) 0 := H9.out; have hq := ((hR9.res.setI 0 (.string oNum)).setI 1 (.string t.text)).setI 2 (.slice none 0 0); have hx := hq.cell 0 _ rfl; have hy := hq.cell 1 _ rfl; have hz := hq.cell 2 _ rfl; refine bodyPost_ret (v := .agg #[.string oNum, .string t.text, .slice none 0 0]) (by simp [results, Tryz.results236, go_sem, hx, hy, hz]) rfl ?_
    have hS9 := hR9.fin [.string oNum, .string t.text, .slice none 0 0]; have hP9 := hR9.prc hc9 [.string oNum, .string t.text, .slice none 0 0]; show XP g (.slice (some ⟨tb, tof, none⟩) l.length c0) k _ w _ (setAll (w2.setCell ⟨g, 1, none⟩ (.int .i64 ((k : Int) + 1))) w.heap.size 0 [.string oNum, .string t.text, .slice none 0 0]); rw [HR2.out]; exact ⟨hS9, hP9, _, _, _, _, _, rfl, fun _ => ExpIn.leaf _ _ oNum t.text⟩
   ·have kb2 : (t.kind == 2) = false := by rw [beq_eq_false_iff_ne]; exact k2
    rw [if_neg k2] at hR2; have K2 := Lib.hid k2; clear k2
    by_cases k3 : t.kind = 3
    ·rw [if_pos k3] at hR2
     have kb : (t.kind == 3) = true := by rw [beq_iff_eq]; exact k3
     have K3 := Lib.hid k3; have hPa := Parse_any t.text w2 hsh h2.tab; rcases quo_parse t.text with ⟨hq1, xs, e, hq2, hq3⟩ | ⟨xs, hq1, hq2⟩
     ·rw [hq1] at hR2
      rw [hq2] at hPa; have HR2 := Lib.hid hR2; have hne1 : (e != 0) = true := by simpa using hq3
      have hc9 := h2.box; have H2 := Lib.hid h2; clear hR2 hq1 hq2 hq3 k3 h2; have hres := hC9.rs.res; have hrl := hres.lt; have hfi := hC9.tok; have hfl := hfi.lt; have hgl := hc9.lt; have HR := Lib.hid (And.intro hC9 hc9); have hresc0 := hres.cell 0 _ rfl; have hresf0 := hres.frozen 0; have hresc1 := hres.cell 1 _ rfl; have hresf1 := hres.frozen 1; have hresc2 := hres.cell 2 _ rfl; have hresf2 := hres.frozen 2; have hfic0 := hfi.cell 0 _ rfl; have hfif0 := hfi.frozen 0; have hfic1 := hfi.cell 1 _ rfl; have hfif1 := hfi.frozen 1; have hfic2 := hfi.cell 2 _ rfl; have hfif2 := hfi.frozen 2; have hc9c0 := hc9.cell 0 _ rfl; have hc9f0 := hc9.frozen 0; have hc9c1 := hc9.cell 1 _ rfl; have hc9f1 := hc9.frozen 1; have hc9c2 := hc9.cell 2 _ rfl; have hc9f2 := hc9.frozen 2; clear hC9 hc9 hres hfi; go_wp2_with fail; refine hPa.mono ?_; rintro _ w3 ⟨rfl, hb3⟩; obtain ⟨hC9, hc9⟩ := HR.out; clear HR hrl hfl hgl hresc0 hresc1 hresc2 hresf0 hresf1 hresf2 hfic0 hfic1 hfic2 hfif0 hfif1 hfif2 hc9c0 hc9c1 hc9c2 hc9f0 hc9f1 hc9f2
      replace hC9 := hC9.step (Save.of hb3)
      replace hc9 := PrC.below' hc9 hb3
      have hN := fail_ok w3 g _ (k : Nat) 3 hc9; clear hb3 hPa hc9; go_wp2_with fail; refine hN.mono ?_; rintro _ w4 ⟨rfl, hc9, hs4⟩
      replace hC9 := hC9.step hs4
      clear hN hs4; have hres := hC9.rs.res; have hrl := hres.lt; have hfi := hC9.tok; have hfl := hfi.lt; have hgl := hc9.lt; have HR := Lib.hid (And.intro hC9 hc9); have hresc0 := hres.cell 0 _ rfl; have hresf0 := hres.frozen 0; have hresc1 := hres.cell 1 _ rfl; have hresf1 := hres.frozen 1; have hresc2 := hres.cell 2 _ rfl; have hresf2 := hres.frozen 2; have hfic0 := hfi.cell 0 _ rfl; have hfif0 := hfi.frozen 0; have hfic1 := hfi.cell 1 _ rfl; have hfif1 := hfi.frozen 1; have hfic2 := hfi.cell 2 _ rfl; have hfif2 := hfi.frozen 2; have hc9c0 := hc9.cell 0 _ rfl; have hc9f0 := hc9.frozen 0; have hc9c1 := hc9.cell 1 _ rfl; have hc9f1 := hc9.frozen 1; have hc9c2 := hc9.cell 2 _ rfl; have hc9f2 := hc9.frozen 2; clear hC9 hc9 hres hfi; go_wp2; obtain ⟨hC9, hc9⟩ := HR.out; have hR9 := hC9.rs; have hq := ((hR9.res.setI 0 (.string ⟨#[]⟩)).setI 1 (.string ⟨#[]⟩)).setI 2 (.slice none 0 0); have hx := hq.cell 0 _ rfl; have hy := hq.cell 1 _ rfl; have hz := hq.cell 2 _ rfl; refine bodyPost_ret (v := .agg #[.string ⟨#[]⟩, .string ⟨#[]⟩, .slice none 0 0]) (by simp [results, Tryz.results236, go_sem, hx, hy, hz]) rfl ?_; have hS9 := hR9.fin [.string ⟨#[]⟩, .string ⟨#[]⟩, .slice none 0 0]; have hP9 := hR9.prc hc9 [.string ⟨#[]⟩, .string ⟨#[]⟩, .slice none 0 0]; show XP g (.slice (some ⟨tb, tof, none⟩) l.length c0) k _ w _ (setAll w4 w.heap.size 0 [.string ⟨#[]⟩, .string ⟨#[]⟩, .slice none 0 0]); rw [HR2.out]; exact ⟨hS9, hP9, _, _, _, _, _, rfl, fun h => by cases h⟩
     ·rw [hq1] at hR2
      rw [hq2] at hPa; have HR2 := Lib.hid hR2; have hc9 := h2.box; clear hR2 hq1 hq2 k3 h2; have hres := hC9.rs.res; have hrl := hres.lt; have hfi := hC9.tok; have hfl := hfi.lt; have hgl := hc9.lt; have HR := Lib.hid (And.intro hC9 hc9); have hresc0 := hres.cell 0 _ rfl; have hresf0 := hres.frozen 0; have hresc1 := hres.cell 1 _ rfl; have hresf1 := hres.frozen 1; have hresc2 := hres.cell 2 _ rfl; have hresf2 := hres.frozen 2; have hfic0 := hfi.cell 0 _ rfl; have hfif0 := hfi.frozen 0; have hfic1 := hfi.cell 1 _ rfl; have hfif1 := hfi.frozen 1; have hfic2 := hfi.cell 2 _ rfl; have hfif2 := hfi.frozen 2; have hc9c0 := hc9.cell 0 _ rfl; have hc9f0 := hc9.frozen 0; have hc9c1 := hc9.cell 1 _ rfl; have hc9f1 := hc9.frozen 1; have hc9c2 := hc9.cell 2 _ rfl; have hc9f2 := hc9.frozen 2; clear hC9 hc9 hres hfi; go_wp2_with fail; refine hPa.mono ?_; rintro _ w3 ⟨rfl, hb3⟩; obtain ⟨hC9, hc9⟩ := HR.out; clear HR hrl hfl hgl hresc0 hresc1 hresc2 hresf0 hresf1 hresf2 hfic0 hfic1 hfic2 hfif0 hfif1 hfif2 hc9c0 hc9c1 hc9c2 hc9f0 hc9f1 hc9f2
      replace hC9 := hC9.step (Save.of hb3)
      replace hc9 := PrC.below' hc9 hb3
      have H9 := Lib.hid (hc9.setI 1 (.int .i64 ((k : Int) + 1))); have hS5 := Lib.hid (hC9.step ((Save.refl g w3).set 1 (.int .i64 ((k : Int) + 1)))); clear hb3 hPa; have hres := hC9.rs.res; have hrl := hres.lt; have hfi := hC9.tok; have hfl := hfi.lt; have hgl := hc9.lt; have HR := Lib.hid (And.intro hC9 hc9); have hresc0 := hres.cell 0 _ rfl; have hresf0 := hres.frozen 0; have hresc1 := hres.cell 1 _ rfl; have hresf1 := hres.frozen 1; have hresc2 := hres.cell 2 _ rfl; have hresf2 := hres.frozen 2; have hfic0 := hfi.cell 0 _ rfl; have hfif0 := hfi.frozen 0; have hfic1 := hfi.cell 1 _ rfl; have hfif1 := hfi.frozen 1; have hfic2 := hfi.cell 2 _ rfl; have hfif2 := hfi.frozen 2; have hc9c0 := hc9.cell 0 _ rfl; have hc9f0 := hc9.frozen 0; have hc9c1 := hc9.cell 1 _ rfl; have hc9f1 := hc9.frozen 1; have hc9c2 := hc9.cell 2 _ rfl; have hc9f2 := hc9.frozen 2; clear hC9 hc9 hres hfi; go_wp2; obtain ⟨hC9, hc9⟩ := HR.out; clear HR hrl hfl hgl hresc0 hresc1 hresc2 hresf0 hresf1 hresf2 hfic0 hfic1 hfic2 hfif0 hfif1 hfif2 hc9c0 hc9c1 hc9c2 hc9f0 hc9f1 hc9f2; clear hC9 hc9; have hR9 := hS5.out.rs; have hc9 : PrC (w3.setCell ⟨g, 1, none⟩ (.int .i64 ((k : Int) + 1))) g (.slice (some ⟨tb, tof, none⟩) l.length c0) ((k + 1 : Nat)) 0 := H9.out; have hq := ((hR9.res.setI 0 (.string oText)).setI 1 (.string xs)).setI 2 (.slice none 0 0); have hx := hq.cell 0 _ rfl; have hy := hq.cell 1 _ rfl; have hz := hq.cell 2 _ rfl; refine bodyPost_ret (v := .agg #[.string oText, .string xs, .slice none 0 0]) (by simp [results, Tryz.results236, go_sem, hx, hy, hz]) rfl ?_
      have hS9 := hR9.fin [.string oText, .string xs, .slice none 0 0]; have hP9 := hR9.prc hc9 [.string oText, .string xs, .slice none 0 0]; show XP g (.slice (some ⟨tb, tof, none⟩) l.length c0) k _ w _ (setAll (w3.setCell ⟨g, 1, none⟩ (.int .i64 ((k : Int) + 1))) w.heap.size 0 [.string oText, .string xs, .slice none 0 0]); rw [HR2.out]; exact ⟨hS9, hP9, _, _, _, _, _, rfl, fun _ => ExpIn.leaf _ _ oText xs⟩
    ·have kb3 : (t.kind == 3) = false := by rw [beq_eq_false_iff_ne]; exact k3
     rw [if_neg k3] at hR2; have K3 := Lib.hid k3; clear k3; have HR1 := Lib.hid hR2; clear hR2; have hI := is_ok w2 g _ l k sLb h2; have hc9 := h2.box; have hres := hC9.rs.res; have hrl := hres.lt; have hfi := hC9.tok; have hfl := hfi.lt; have hgl := hc9.lt; have HR := Lib.hid (And.intro hC9 hc9); have hresc0 := hres.cell 0 _ rfl; have hresf0 := hres.frozen 0; have hresc1 := hres.cell 1 _ rfl; have hresf1 := hres.frozen 1; have hresc2 := hres.cell 2 _ rfl; have hresf2 := hres.frozen 2; have hfic0 := hfi.cell 0 _ rfl; have hfif0 := hfi.frozen 0; have hfic1 := hfi.cell 1 _ rfl; have hfif1 := hfi.frozen 1; have hfic2 := hfi.cell 2 _ rfl; have hfif2 := hfi.frozen 2; have hc9c0 := hc9.cell 0 _ rfl; have hc9f0 := hc9.frozen 0; have hc9c1 := hc9.cell 1 _ rfl; have hc9f1 := hc9.frozen 1; have hc9c2 := hc9.cell 2 _ rfl; have hc9f2 := hc9.frozen 2; clear hC9 hc9 hres hfi; go_wp2_with fail; obtain ⟨hC9, hc9⟩ := HR.out; clear HR hrl hfl hgl hresc0 hresc1 hresc2 hresf0 hresf1 hresf2 hfic0 hfic1 hfic2 hfif0 hfif1 hfif2 hc9c0 hc9c1 hc9c2 hc9f0 hc9f1 hc9f2; clear hc9; have hR2 := HR1.out; clear HR1
     by_cases s1 : isS (l.drop k) sLb = true
     ·rw [if_pos s1] at hR2
      rw [s1] at hI
      have hr1 : (parX m (.many sRb) (l.drop k) d).2.2 ≠ -1 := by
       have hne2 := hne; rw [hR2] at hne2; exact andX_ne (g := parX m (.many sRb) (l.drop k) d) hne2
      have hMM := fun w3 h3 => hM w3 g (.slice (some ⟨tb, tof, none⟩) l.length c0) l k d sRb h3 (isS_some s1) hd (.inr rfl) hr1; generalize parX m (.many sRb) (l.drop k) d = r1 at *; obtain ⟨x1, n1, e1⟩ := r1; simp only at hMM hr1; have HR2 := Lib.hid hR2; clear hR2; refine hI.mono ?_; rintro _ w4 ⟨rfl, hb4⟩; have h4 := h2.step hb4
      replace hC9 := hC9.step (Save.of hb4)
      clear hI h2 hb4; have hz4 := hC9.rs.save.size; have hw4 := hC9.rs.res.lt; go_wp2_with fail; refine (hMM w4 h4).mono ?_; rintro _ w5 ⟨hs5, hc9, ya, yn, yc, rfl, hX5⟩
      replace hC9 := hC9.step hs5
      have HX5 := Lib.hid hX5; clear hs5 h4 hMM hX5; have hres := hC9.rs.res; have hrl := hres.lt; have hfi := hC9.tok; have hfl := hfi.lt; have hgl := hc9.lt; have HR := Lib.hid (And.intro hC9 hc9); have hresc0 := hres.cell 0 _ rfl; have hresf0 := hres.frozen 0; have hresc1 := hres.cell 1 _ rfl; have hresf1 := hres.frozen 1; have hresc2 := hres.cell 2 _ rfl; have hresf2 := hres.frozen 2; have hfic0 := hfi.cell 0 _ rfl; have hfif0 := hfi.frozen 0; have hfic1 := hfi.cell 1 _ rfl; have hfif1 := hfi.frozen 1; have hfic2 := hfi.cell 2 _ rfl; have hfif2 := hfi.frozen 2; have hc9c0 := hc9.cell 0 _ rfl; have hc9f0 := hc9.frozen 0; have hc9c1 := hc9.cell 1 _ rfl; have hc9f1 := hc9.frozen 1; have hc9c2 := hc9.cell 2 _ rfl; have hc9f2 := hc9.frozen 2; clear hC9 hc9 hres hfi; go_wp2; obtain ⟨hC9, hc9⟩ := HR.out; have hR9 := hC9.rs; have hq := ((hR9.res.setI 0 (.string oList)).setI 1 (.string ⟨#[]⟩)).setI 2 (.slice ya yn yc); have hx := hq.cell 0 _ rfl; have hy := hq.cell 1 _ rfl; have hz := hq.cell 2 _ rfl; refine bodyPost_ret (v := .agg #[.string oList, .string ⟨#[]⟩, .slice ya yn yc]) (by simp [results, Tryz.results236, go_sem, hx, hy, hz]) rfl ?_; have hS9 := hR9.fin [.string oList, .string ⟨#[]⟩, .slice ya yn yc]; have hP9 := hR9.prc hc9 [.string oList, .string ⟨#[]⟩, .slice ya yn yc]; show XP g (.slice (some ⟨tb, tof, none⟩) l.length c0) k _ w _ (setAll w5 w.heap.size 0 [.string oList, .string ⟨#[]⟩, .slice ya yn yc]); have hR2 := HR2.out
      by_cases he : e1 = 0
      ·subst he
       rw [andX_ok (by rfl)] at hR2; rw [hR2]; exact ⟨hS9, hP9, _, _, _, _, _, rfl, fun _ => ExpIn.keep (Nat.le_of_lt hw4) hw4 (HX5.out rfl oList ⟨#[]⟩)⟩
      ·rw [andX_bad (by exact he)] at hR2
       rw [hR2]; exact ⟨hS9, hP9, _, _, _, _, _, rfl, fun h => absurd h he⟩
     ·have s1f : isS (l.drop k) sLb = false := by simpa using s1
      rw [if_neg s1] at hR2; rw [s1f] at hI; have HR1 := Lib.hid hR2; clear hR2; refine hI.mono ?_; rintro _ w4 ⟨rfl, hb4⟩; have h4 := h2.step hb4
      replace hC9 := hC9.step (Save.of hb4)
      clear hI h2 hb4; have hI := is_ok w4 g _ l k sLp h4; have hc9 := h4.box; have hres := hC9.rs.res; have hrl := hres.lt; have hfi := hC9.tok; have hfl := hfi.lt; have hgl := hc9.lt; have HR := Lib.hid (And.intro hC9 hc9); have hresc0 := hres.cell 0 _ rfl; have hresf0 := hres.frozen 0; have hresc1 := hres.cell 1 _ rfl; have hresf1 := hres.frozen 1; have hresc2 := hres.cell 2 _ rfl; have hresf2 := hres.frozen 2; have hfic0 := hfi.cell 0 _ rfl; have hfif0 := hfi.frozen 0; have hfic1 := hfi.cell 1 _ rfl; have hfif1 := hfi.frozen 1; have hfic2 := hfi.cell 2 _ rfl; have hfif2 := hfi.frozen 2; have hc9c0 := hc9.cell 0 _ rfl; have hc9f0 := hc9.frozen 0; have hc9c1 := hc9.cell 1 _ rfl; have hc9f1 := hc9.frozen 1; have hc9c2 := hc9.cell 2 _ rfl; have hc9f2 := hc9.frozen 2; clear hC9 hc9 hres hfi; go_wp2_with fail; obtain ⟨hC9, hc9⟩ := HR.out; clear HR hrl hfl hgl hresc0 hresc1 hresc2 hresf0 hresf1 hresf2 hfic0 hfic1 hfic2 hfif0 hfif1 hfif2 hc9c0 hc9c1 hc9c2 hc9f0 hc9f1 hc9f2; clear hc9; have hR2 := HR1.out; clear HR1
      by_cases s2 : isS (l.drop k) sLp = true
      ·rw [if_pos s2] at hR2
       rw [s2] at hI
       by_cases hd6 : 64 <= d
       ·rw [if_pos hd6] at hR2
        have HR2 := Lib.hid hR2; clear hR2; refine hI.mono ?_; rintro _ w5 ⟨rfl, hb5⟩; have h5 := h4.step hb5
        replace hC9 := hC9.step (Save.of hb5)
        clear hI h4 hb5; have hN := into_no w5 g _ k d h5.box hd6; go_wp2_with fail; refine hN.mono ?_; rintro _ w6 ⟨rfl, hc9, hs6⟩
        replace hC9 := hC9.step hs6
        clear hN hs6 h5; have hres := hC9.rs.res; have hrl := hres.lt; have hfi := hC9.tok; have hfl := hfi.lt; have hgl := hc9.lt; have HR := Lib.hid (And.intro hC9 hc9); have hresc0 := hres.cell 0 _ rfl; have hresf0 := hres.frozen 0; have hresc1 := hres.cell 1 _ rfl; have hresf1 := hres.frozen 1; have hresc2 := hres.cell 2 _ rfl; have hresf2 := hres.frozen 2; have hfic0 := hfi.cell 0 _ rfl; have hfif0 := hfi.frozen 0; have hfic1 := hfi.cell 1 _ rfl; have hfif1 := hfi.frozen 1; have hfic2 := hfi.cell 2 _ rfl; have hfif2 := hfi.frozen 2; have hc9c0 := hc9.cell 0 _ rfl; have hc9f0 := hc9.frozen 0; have hc9c1 := hc9.cell 1 _ rfl; have hc9f1 := hc9.frozen 1; have hc9c2 := hc9.cell 2 _ rfl; have hc9f2 := hc9.frozen 2; clear hC9 hc9 hres hfi; go_wp2; obtain ⟨hC9, hc9⟩ := HR.out; have hR9 := hC9.rs; have hq := ((hR9.res.setI 0 (.string ⟨#[]⟩)).setI 1 (.string ⟨#[]⟩)).setI 2 (.slice none 0 0); have hx := hq.cell 0 _ rfl; have hy := hq.cell 1 _ rfl; have hz := hq.cell 2 _ rfl; refine bodyPost_ret (v := .agg #[.string ⟨#[]⟩, .string ⟨#[]⟩, .slice none 0 0]) (by simp [results, Tryz.results236, go_sem, hx, hy, hz]) rfl ?_; have hS9 := hR9.fin [.string ⟨#[]⟩, .string ⟨#[]⟩, .slice none 0 0]; have hP9 := hR9.prc hc9 [.string ⟨#[]⟩, .string ⟨#[]⟩, .slice none 0 0]; show XP g (.slice (some ⟨tb, tof, none⟩) l.length c0) k _ w _ (setAll w6 w.heap.size 0 [.string ⟨#[]⟩, .string ⟨#[]⟩, .slice none 0 0]); rw [HR2.out]; exact ⟨hS9, hP9, _, _, _, _, _, rfl, fun h => by cases h⟩
       ·rw [if_neg hd6] at hR2
        simp only [List.drop_drop] at hR2
        have hr1 : (parX m .choice (l.drop (k + 1)) (d + 1)).2.2 ≠ -1 := by
         have hne2 := hne; rw [hR2] at hne2; exact andX_ne (g := upX 1 (parX m .choice (l.drop (k + 1)) (d + 1))) hne2
        have hle2 := (parX_le m .choice (l.drop (k + 1)) (d + 1) (by simp only [Nt.okX]) hr1).1; rw [List.length_drop] at hle2; have hCC := fun w3 h3 => hC w3 g (.slice (some ⟨tb, tof, none⟩) l.length c0) l (k + 1) (d + 1) h3 (by omega) hr1; rw [show ((d + 1 : Nat) : Int) = (d : Int) + 1 by omega] at hCC; generalize parX m .choice (l.drop (k + 1)) (d + 1) = r1 at *; obtain ⟨x1, n1, e1⟩ := r1; simp only at hle2 hr1; have HR2 := Lib.hid hR2; clear hR2; refine hI.mono ?_; rintro _ w5 ⟨rfl, hb5⟩; have h5 := h4.step hb5
        replace hC9 := hC9.step (Save.of hb5)
        clear hI h4 hb5; have hN := into_yes w5 g _ k d h5.box (by omega) (by omega); go_wp2_with fail; refine hN.mono ?_; rintro _ w6 ⟨rfl, hc6, hs6⟩; have h6 := h5.go hs6 hc6 hkl2
        replace hC9 := hC9.step hs6
        have hz6 := hC9.rs.save.size; have hw6 := hC9.rs.res.lt; clear hN hs6 h5 hc6; go_wp2_with fail; refine (hCC w6 h6).mono ?_; rintro _ w7 ⟨hs7, hc7, o2, t2, a2, m2, c2, rfl, hX7⟩; simp only at hc7 hX7
        replace hC9 := hC9.step hs7
        have hP7 : e1 = 0 -> Prs w7 g (.slice (some ⟨tb, tof, none⟩) l.length c0) l (k + 1 + n1) := fun he => by
         subst he; exact h6.go hs7 hc7 (by omega)
        have hz7 := hs7.size; clear hs7 h6 hCC; have hb8 : Below w7.heap.size w7 (w7.alloc (.cells #[.string o2, .string t2, .slice a2 m2 c2] 52)) := (Below.refl _ _).alloc (Nat.le_refl _) _; have hk8 := Cells.new w7 #[.string o2, .string t2, .slice a2 m2 c2] 52; have H8 := Lib.hid (And.intro (hC9.step (Save.of hb8)) (And.intro (PrC.below' hc7 hb8) (And.intro (fun he => (hP7 he).step hb8) (And.intro hk8 (fun he => ExpIn.below hb8 x1 _ (hX7 he)))))); clear hb8 hk8 hX7 hP7 hC9 hc7; go_wp2_with fail; obtain ⟨hC9, hc9, hP8, hk8, hX8⟩ := H8.out; clear H8; generalize w7.alloc (.cells #[.string o2, .string t2, .slice a2 m2 c2] 52) = w8 at *; have hR2 := HR2.out
        have hN : ∃ (kk : Nat) (ee : Int), Calls Tryz.prog 221 #[.pointer (some ⟨g, 0, none⟩), .string sRp] w8 (fun r w' => r = .returned (.tuple #[]) /\ PrC w' g (.slice (some ⟨tb, tof, none⟩) l.length c0) (kk : Nat) ee /\ Save g w8 w') /\ k <= kk /\
          ((ee = 0 /\ e1 = 0 /\ R = (x1, kk - k, 0)) \/ (ee ≠ 0 /\ R = (zeroX, kk - k, ee))) := by
         by_cases he : e1 = 0
         ·subst he
          have hRe2 : R = (if isS (l.drop (k + (1 + n1))) sRp = false then badX (l.drop (k + (1 + n1))) (1 + n1) else (x1, 1 + n1 + 1, 0)) := by
           rw [hR2, andX_ok (by rfl)]; rfl
          have hN := need_ok w8 g _ l (k + 1 + n1) sRp (hP8 rfl); rw [show k + (1 + n1) = k + 1 + n1 by omega] at hRe2
          by_cases s3 : isS (l.drop (k + 1 + n1)) sRp = false
          ·rw [if_pos s3, badX_e] at hRe2
           rw [s3, if_neg (by simp), if_neg (by simp)] at hN; refine ⟨k + 1 + n1, _, hN, by omega, .inr ⟨wrE_ne _, ?_⟩⟩; rw [hRe2, show k + 1 + n1 - k = 1 + n1 by omega]
          ·have s3t : isS (l.drop (k + 1 + n1)) sRp = true := by simpa using s3
           rw [if_neg s3] at hRe2; rw [s3t, if_pos rfl, if_pos rfl] at hN; refine ⟨k + 1 + n1 + 1, _, hN, by omega, .inl ⟨rfl, rfl, ?_⟩⟩; rw [hRe2, show k + 1 + n1 + 1 - k = 1 + n1 + 1 by omega]
         ·rw [andX_bad (by exact he)] at hR2
          refine ⟨k + 1 + n1, e1, need_no2 w8 g _ _ e1 sRp hc9 he ⟨_, _, _, rfl⟩, by omega, .inr ⟨he, ?_⟩⟩; rw [hR2]; exact Prod.ext rfl (Prod.ext (by simp only [upX]; omega) rfl)
        obtain ⟨kk, ee, hN, hkk, hcase⟩ := hN; refine hN.mono ?_; rintro _ w9 ⟨rfl, hc10, hs10⟩; have hk9 := hs10.cells hk8 (by omega)
        have hX9 : e1 = 0 -> ExpIn (fun b => w6.heap.size <= b) w9 x1 (expV o2 t2 (.slice a2 m2 c2)) := fun he =>
         ExpIn.move hs10.size (fun b hb hlt => hs10.2 b hlt (by omega)) (fun b hb _ => hb) x1 _ (hX8 he)
        replace hC9 := hC9.step hs10
        replace hc9 := hc10
        have HC := Lib.hid (And.intro hcase hX9); have hk9l := hk9.lt; clear hs10 hk8 hX8 hP8 hc10 hcase hX9 hN hR2 HR2; have hk9c0 := hk9.cell 0 _ rfl; have hk9f0 := hk9.frozen 0; have hk9c1 := hk9.cell 1 _ rfl; have hk9f1 := hk9.frozen 1; have hk9c2 := hk9.cell 2 _ rfl; have hk9f2 := hk9.frozen 2; clear hk9; have hres := hC9.rs.res; have hrl := hres.lt; have hfi := hC9.tok; have hfl := hfi.lt; have hgl := hc9.lt; have HR := Lib.hid (And.intro hC9 hc9); have hresc0 := hres.cell 0 _ rfl; have hresf0 := hres.frozen 0; have hresc1 := hres.cell 1 _ rfl; have hresf1 := hres.frozen 1; have hresc2 := hres.cell 2 _ rfl; have hresf2 := hres.frozen 2; have hfic0 := hfi.cell 0 _ rfl; have hfif0 := hfi.frozen 0; have hfic1 := hfi.cell 1 _ rfl; have hfif1 := hfi.frozen 1; have hfic2 := hfi.cell 2 _ rfl; have hfif2 := hfi.frozen 2; have hc9c0 := hc9.cell 0 _ rfl; have hc9f0 := hc9.frozen 0; have hc9c1 := hc9.cell 1 _ rfl; have hc9f1 := hc9.frozen 1; have hc9c2 := hc9.cell 2 _ rfl; have hc9f2 := hc9.frozen 2; clear hC9 hc9 hres hfi; go_wp2; obtain ⟨hC9, hc9⟩ := HR.out; have hR9 := hC9.rs; have hq := ((hR9.res.setI 0 (.string o2)).setI 1 (.string t2)).setI 2 (.slice a2 m2 c2); have hx := hq.cell 0 _ rfl; have hy := hq.cell 1 _ rfl; have hz := hq.cell 2 _ rfl; refine bodyPost_ret (v := .agg #[.string o2, .string t2, .slice a2 m2 c2]) (by simp [results, Tryz.results236, go_sem, hx, hy, hz]) rfl ?_; have hS9 := hR9.fin [.string o2, .string t2, .slice a2 m2 c2]; have hP9 := hR9.prc hc9 [.string o2, .string t2, .slice a2 m2 c2]
        show XP g (.slice (some ⟨tb, tof, none⟩) l.length c0) k _ w _ (setAll w9 w.heap.size 0 [.string o2, .string t2, .slice a2 m2 c2]); obtain ⟨hcase, hX9⟩ := HC.out; have hkx : k + (kk - k) = kk := by omega
        rcases hcase with ⟨he0, he1, hRR⟩ | ⟨he, hRR⟩
        ·subst he0
         rw [hRR]; exact ⟨hS9, by show PrC _ g _ ((k + (kk - k) : Nat)) 0; rw [hkx]; exact hP9, _, _, _, _, _, rfl, fun _ => ExpIn.keep (Nat.le_of_lt hw6) hw6 (hX9 he1)⟩
        ·rw [hRR]
         exact ⟨hS9, by show PrC _ g _ ((k + (kk - k) : Nat)) ee; rw [hkx]; exact hP9, _, _, _, _, _, rfl, fun h => absurd h he⟩
      ·have s2f : isS (l.drop k) sLp = false := by simpa using s2
       rw [if_neg s2, badX_e] at hR2; rw [s2f] at hI; have hw2 : wrE (l.drop k) ≠ 0 := wrE_ne _; refine hI.mono ?_; rintro _ w5 ⟨rfl, hb5⟩; have h5 := h4.step hb5
       replace hC9 := hC9.step (Save.of hb5)
       have hW := wrong_ok w5 g _ l k h5; generalize wrE (l.drop k) = ee at *; have HR2 := Lib.hid (And.intro hR2 hw2); clear hI h4 hb5 hR2 hw2 h5; go_wp2_with fail; refine hW.mono ?_; rintro _ w6 ⟨rfl, hc9, hs6⟩
       replace hC9 := hC9.step hs6
       clear hW hs6; have hres := hC9.rs.res; have hrl := hres.lt; have hfi := hC9.tok; have hfl := hfi.lt; have hgl := hc9.lt; have HR := Lib.hid (And.intro hC9 hc9); have hresc0 := hres.cell 0 _ rfl; have hresf0 := hres.frozen 0; have hresc1 := hres.cell 1 _ rfl; have hresf1 := hres.frozen 1; have hresc2 := hres.cell 2 _ rfl; have hresf2 := hres.frozen 2; have hfic0 := hfi.cell 0 _ rfl; have hfif0 := hfi.frozen 0; have hfic1 := hfi.cell 1 _ rfl; have hfif1 := hfi.frozen 1; have hfic2 := hfi.cell 2 _ rfl; have hfif2 := hfi.frozen 2; have hc9c0 := hc9.cell 0 _ rfl; have hc9f0 := hc9.frozen 0; have hc9c1 := hc9.cell 1 _ rfl; have hc9f1 := hc9.frozen 1; have hc9c2 := hc9.cell 2 _ rfl; have hc9f2 := hc9.frozen 2; clear hC9 hc9 hres hfi; go_wp2; obtain ⟨hC9, hc9⟩ := HR.out; have hR9 := hC9.rs; have hq := ((hR9.res.setI 0 (.string ⟨#[]⟩)).setI 1 (.string ⟨#[]⟩)).setI 2 (.slice none 0 0); have hx := hq.cell 0 _ rfl; have hy := hq.cell 1 _ rfl; have hz := hq.cell 2 _ rfl; refine bodyPost_ret (v := .agg #[.string ⟨#[]⟩, .string ⟨#[]⟩, .slice none 0 0]) (by simp [results, Tryz.results236, go_sem, hx, hy, hz]) rfl ?_; have hS9 := hR9.fin [.string ⟨#[]⟩, .string ⟨#[]⟩, .slice none 0 0]; have hP9 := hR9.prc hc9 [.string ⟨#[]⟩, .string ⟨#[]⟩, .slice none 0 0]; show XP g (.slice (some ⟨tb, tof, none⟩) l.length c0) k _ w _ (setAll w6 w.heap.size 0 [.string ⟨#[]⟩, .string ⟨#[]⟩, .slice none 0 0]); rw [HR2.out.1]; exact ⟨hS9, hP9, _, _, _, _, _, rfl, fun e => absurd e HR2.out.2⟩
end Go.Proofs.YtbcdaaobbebooaaGreatDoor
