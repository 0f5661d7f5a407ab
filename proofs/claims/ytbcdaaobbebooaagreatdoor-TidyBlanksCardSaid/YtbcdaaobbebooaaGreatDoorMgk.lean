/- Texts of this claim, one behind the other: BoM, BoV, BoNp, BoNq, BoN, BoVp, LkG, LkH. -/
import Derived.Test.YtbcdaaobbebooaaGreatDoorMgg
import Derived.Test.YtbcdaaobbebooaaGreatDoorMgh
import Derived.Test.YtbcdaaobbebooaaGreatDoorMgi
import Derived.Test.YtbcdaaobbebooaaGreatDoorMgj
set_option linter.unusedSimpArgs false
set_option linter.unusedVariables false
namespace Go.Proofs.YtbcdaaobbebooaaGreatDoor
set_option maxRecDepth 100000
set_option maxHeartbeats 20000000
open Go.RowKit Go.Tab
theorem StC.inn {B g : Nat} {rb : Option Nat} {w : World} {v : Value} {C : List Opn} (h : StC B g rb w v C) (hB : B <= w.heap.size) (b : Nat) (hb : w.heap.size <= b) : Inn B g rb v C b :=
 ⟨Nat.le_trans hB hb, fun e => by have := h.gl; omega, fun e => by have := h.rl b e; omega, fun e => by have := (h.lt (.inl e)).2; omega, fun c hc e => by have := (h.lt (.inr ⟨c, hc, e⟩)).2; omega⟩
theorem StC.below {B g : Nat} {rb : Option Nat} {w w' : World} {v : Value} {C : List Opn} (h : StC B g rb w v C) (hb : Below w.heap.size w w') : StC B g rb w' v C :=
 h.keep hb.size (fun b hl _ _ => hb.block b hl) (fun b e => ⟨.inl e, Nat.lt_of_lt_of_le (h.rl b e) hb.size⟩)
theorem StC.save {B g : Nat} {rb : Option Nat} {w w' : World} {v : Value} {C : List Opn} (h : StC B g rb w v C) (hb : Save g w w') : StC B g rb w' v C :=
 h.keep hb.1.size (fun b hl h1 _ => hb.2 b hl h1) (fun b e => ⟨.inl e, Nat.lt_of_lt_of_le (h.rl b e) hb.1.size⟩)
def ReadP (B g : Nat) (rb : Option Nat) (r : List Itm × Int × Int) (w : World) (e : Ending) (w' : World) : Prop :=
 e = .returned (.tuple #[]) /\ ∃ v', StAt B g rb w' v' r.1 /\ PBox w' g v' r.2.1 r.2.2 /\ KeepR B rb w w'
theorem read_kind {B g : Nat} {rb : Option Nat} {w w4 : World} {v : Value} {C : List Opn} {x : Itm} {xs : List Value} {o : Obj} (h : StC B g rb w v C) (hB : B <= w.heap.size) (hg : B <= g) (hs : Save g (w.alloc o) w4) (hin : ItmIn (fun b => (w.alloc o).heap.size <= b) w4 x xs) :
  StC B g rb w4 v C /\ ItmIn (Inn B g rb v C) w4 x xs /\ KeepR B rb w w4 := by
 have hA : Below w.heap.size w (w.alloc o) := (Below.refl _ w).alloc (Nat.le_refl _) _; have h1 := h.below hA; refine ⟨h1.save hs, ItmIn.move (Nat.le_refl _) (fun _ _ _ => rfl) (fun b hb _ => h1.inn (Nat.le_trans hB hA.size) b hb) _ _ hin, ?_, fun b e => ?_⟩
 ·exact (hA.mono hB).trans ⟨hs.1.os, hs.1.tape, hs.1.output, hs.1.size, fun k hk => hs.2 k (by have := hA.size; omega) (by omega)⟩
 ·exact (hs.2 b (by have := h.rl b e; have := hA.size; omega) (fun q => h.apart.rg (by rw [e, q]))).trans (hA.block b (h.rl b e))
theorem read_next {B g : Nat} {rb : Option Nat} {w w4 w5 : World} {v : Value} {C : List Opn} {x : Itm} {xs : List Value} {a e : Int} {p : Prop} (h : StC B g rb w4 v C /\ PBox w4 g v a e /\ ItmIn (Inn B g rb v C) w4 x xs /\ KeepR B rb w w4 /\ p) (hb : Below w4.heap.size w4 w5) (hB : B <= w.heap.size) :
  StC B g rb w5 v C /\ PBox w5 g v a e /\ ItmIn (Inn B g rb v C) w5 x xs /\ KeepR B rb w w5 :=
 ⟨h.1.below hb, h.2.1.below hb h.1.gl, ItmIn.below hb _ _ h.2.2.1, h.2.2.2.1.trans hB ⟨hb.mono (Nat.le_trans hB h.2.2.2.1.1.size), fun b e => hb.block b (h.1.rl b e)⟩⟩
theorem push_done {B g n ob oc g3 cap3 : Nat} {rb : Option Nat} {w w5 W W' : World} {C : List Opn} {c : Opn} {x : Itm} {xs os : List Value} {a e : Int} (h : StC B g rb w5 (.slice (some ⟨ob, 0, none⟩) (C.length + 1) oc) (C ++ [c]) /\ PBox w5 g (.slice (some ⟨ob, 0, none⟩) (C.length + 1) oc) a e /\ ItmIn (Inn B g rb (.slice (some ⟨ob, 0, none⟩) (C.length + 1) oc) (C ++ [c])) w5 x xs /\ KeepR B rb w w5)
  (hg : B <= g) (h6 : xs[6]? = some (.slice none 0 0)) (hn : n = C.length + 1) (hos : os = (C ++ [c]).flatMap (·.cs)) (hB : B <= w.heap.size) (hW : Below w5.heap.size w5 W) (hs : W.heap.size = w5.heap.size + 1) (hE : PushE B g n g3 cap3 a e os xs (.slice (some ⟨ob, 0, none⟩) n oc) W W') :
  StC B g rb W' (.slice (some ⟨g3, 0, none⟩) (C.length + 1 + 1) cap3) ((C ++ [c]) ++ [⟨x, xs, .slice none 0 0⟩]) /\ PBox W' g (.slice (some ⟨g3, 0, none⟩) (C.length + 1 + 1) cap3) a e /\ KeepR B rb w W' := by
 subst hn; subst hos; obtain ⟨e1, e2, e3, e4, e5⟩ := hE; have hf : ∀ b, b < w5.heap.size -> (Value.slice (some ⟨ob, 0, none⟩) (C.length + 1) oc).ownBlock ≠ some b -> b ≠ g -> W'.heap[b]? = w5.heap[b]? := fun b hb h1 h2 => (e5 b (by omega) h1 h2).trans (hW.block b hb)
 have hsz : w5.heap.size <= W'.heap.size := by have := e4.size; omega
 have hl : (C ++ [c]).length = C.length + 1 := by simp
 have hB5 := Nat.le_trans hB h.2.2.2.1.size; have hp := StC.push (g2 := g3) (cap2 := cap3) (c := ⟨x, xs, .slice none 0 0⟩) h.1 (OneAt.fresh h.2.2.1 h6) rfl (by rw [hl]; exact e1) (e3.imp id (fun q => by omega)) hsz hf
 rw [hl] at hp; refine ⟨hp, e2, h.2.2.2.trans hB ⟨⟨(e4.os).trans hW.os, (e4.tape).trans hW.tape, (e4.output).trans hW.output, hsz, fun k hk => hf k (by omega) (fun q => by have := (h.1.lt (.inl q)).1; omega) (fun q => ?_)⟩, fun b eb => hf b (h.1.rl b eb) (fun q => h.1.apart.vr b q eb) (fun q => h.1.apart.rg (by rw [eb, q]))⟩⟩
 omega
theorem begin_done {B g n ob oc g3 cap3 : Nat} {rb : Option Nat} {w w5 W W' : World} {C : List Opn} {c : Opn} {x : Itm} {xs os : List Value} (h : StC B g rb w5 (.slice (some ⟨ob, 0, none⟩) (C.length + 1) oc) (C ++ [c]) /\ PBox w5 g (.slice (some ⟨ob, 0, none⟩) (C.length + 1) oc) 0 0 /\ ItmIn (Inn B g rb (.slice (some ⟨ob, 0, none⟩) (C.length + 1) oc) (C ++ [c])) w5 x xs /\ KeepR B rb w w5)
  (hg : B <= g) (h6 : xs[6]? = some (.slice none 0 0)) (hn : n = C.length + 1) (hos : os = (C ++ [c]).flatMap (·.cs)) (hB : B <= w.heap.size) (hW : Below w5.heap.size w5 W) (hs : W.heap.size = w5.heap.size + 1) (hE : PushE B g n g3 cap3 0 0 os xs (.slice (some ⟨ob, 0, none⟩) n oc) W W') :
  ReadP B g rb (readR ((C ++ [c]).map (·.x)) (.begins x)) w (.returned (.tuple #[])) W' := by
 obtain ⟨p1, p2, p3⟩ := push_done h hg h6 hn hos hB hW hs hE; exact ⟨rfl, _, ⟨_, by simp [readR], p1⟩, p2, p3⟩
theorem OneAt.shape {P : Nat -> Prop} {B : Nat} {w : World} {c : Opn} (h : OneAt P B w c) : ∃ (b : Bool) (n vo vt : ByteArray) (va : Option Addr) (vn vc : Nat) (la : Option Addr) (ln lc : Nat) (ia : Option Addr) (k cap : Nat), c.cs = [.bool b, .string n, .string vo, .string vt, .slice va vn vc, .slice la ln lc, .slice ia k cap] := by
 obtain ⟨b, n, e, ls, vo, vt, vk, lv, L, -, h2, h3, h4, h5, -⟩ := h; obtain ⟨va, vn, vc, rfl⟩ := exp_shape h3; obtain ⟨la, lc, rfl, -⟩ := h4.1.len; rcases h5.2 with ⟨q, -⟩ | ⟨g, cap, cur, q, -⟩
 ·rw [q] at h2; exact ⟨_, _, _, _, _, _, _, _, _, _, _, _, _, h2⟩
 ·rw [q] at h2; exact ⟨_, _, _, _, _, _, _, _, _, _, _, _, _, h2⟩
theorem top_at {B g ob oc : Nat} {rb : Option Nat} {w : World} {C : List Opn} {c : Opn} (h : StC B g rb w (.slice (some ⟨ob, 0, none⟩) (C.length + 1) oc) (C ++ [c])) (j : Nat) (u : Value) (hu : c.cs[j]? = some u) : w.cell? ⟨ob, C.length * 7 + j, none⟩ = some u := by
 have h7 : ∀ d ∈ C, d.cs.length = 7 := fun d hd => (h.all d (by simp [hd])).len
 have hj : j < 7 := by have := (List.getElem?_eq_some_iff.1 hu).1; rw [(h.all c (by simp)).len] at this; exact this
 have hro := h.row; rw [show (C ++ [c]).length = C.length + 1 by simp] at hro
 rw [hro.cellAt _ (by omega), flat_top C c h7 j, hu]
theorem read_nextT {B g : Nat} {rb : Option Nat} {w w4 w5 : World} {v : Value} {C : List Opn} {a e : Int} {p : Prop} (h : StC B g rb w4 v C /\ PBox w4 g v a e /\ p /\ KeepR B rb w w4) (hb : Below w4.heap.size w4 w5) (hB : B <= w.heap.size) :
  StC B g rb w5 v C /\ PBox w5 g v a e /\ True /\ KeepR B rb w w5 :=
 ⟨h.1.below hb, h.2.1.below hb h.1.gl, trivial, h.2.2.2.trans hB ⟨hb.mono (Nat.le_trans hB h.2.2.2.1.size), fun b e => hb.block b (h.1.rl b e)⟩⟩
theorem fin_call {B g ob oc m : Nat} {rb : Option Nat} {w wc : World} {C : List Opn} {c : Opn} {xs : List Value} {p : Prop} (h : StC B g rb wc (.slice (some ⟨ob, 0, none⟩) (C.length + 1) oc) (C ++ [c]) /\ PBox wc g (.slice (some ⟨ob, 0, none⟩) (C.length + 1) oc) 0 0 /\ p /\ KeepR B rb w wc)
  (hC0 : 0 < C.length) (hcs : c.cs = xs) (hC : C.length <= 900001) (hk : ∀ d ∈ C, d.x.items.length <= 900000) (hB : B <= w.heap.size) (hg : B <= g) (hm : m = C.length) :
  Calls Tryz.prog 90 #[.pointer (some ⟨g, 0, none⟩), .agg xs.toArray] (wc.setCell ⟨g, 0, none⟩ (.slice (some ⟨ob, 0, none⟩) m oc)).drew fun e w' => e = .returned (.tuple #[]) /\ ReadP B g rb (readR ((C ++ [c]).map (·.x)) .fin) w (.returned (.tuple #[])) w' := by
 subst hm; subst hcs; have hsz : wc.heap.size <= (wc.setCell ⟨g, 0, none⟩ (.slice (some ⟨ob, 0, none⟩) C.length oc)).drew.heap.size := by show _ <= (wc.setCell _ _).heap.size; simp [World.setCell]
 have hf : ∀ b, b < wc.heap.size -> b ≠ g -> (wc.setCell ⟨g, 0, none⟩ (.slice (some ⟨ob, 0, none⟩) C.length oc)).drew.heap[b]? = wc.heap[b]? := fun b _ hb => heap_setCell_other wc ⟨g, 0, none⟩ b _ hb; obtain ⟨h1, h2⟩ := h.1.pop (w' := (wc.setCell ⟨g, 0, none⟩ (.slice (some ⟨ob, 0, none⟩) C.length oc)).drew) hC0 hsz hf; have hp : PBox (wc.setCell ⟨g, 0, none⟩ (.slice (some ⟨ob, 0, none⟩) C.length oc)).drew g (.slice (some ⟨ob, 0, none⟩) C.length oc) 0 0 := h.2.1.setI 0 _; have hkp : KeepR B rb wc (wc.setCell ⟨g, 0, none⟩ (.slice (some ⟨ob, 0, none⟩) C.length oc)).drew := ⟨⟨rfl, rfl, rfl, hsz, fun k hk => hf k (Nat.lt_of_lt_of_le hk (Nat.le_trans hB h.2.2.2.1.size)) (by omega)⟩, fun b eb => hf b (h.1.rl b eb) (fun q => h.1.apart.rg (by rw [eb, q]))⟩
 have hBc := Nat.le_trans hB h.2.2.2.1.size; generalize (wc.setCell ⟨g, 0, none⟩ (.slice (some ⟨ob, 0, none⟩) C.length oc)).drew = wd at *; rcases List.eq_nil_or_concat C with rfl | ⟨C1, d, hCd⟩
 ·simp at hC0
 ·rw [List.concat_eq_append] at hCd
  subst hCd; refine (addC_any 0 0 h1 hp h2 (by simp at hC; omega) (Nat.le_trans (hk d (by simp)) (by omega)) (Nat.le_trans hBc hsz)).mono ?_
  rintro _ w' ⟨rfl, c2, e2, s2, p2, k2⟩; refine ⟨rfl, rfl, _, ⟨C1 ++ [c2], ?_, s2⟩, p2, (h.2.2.2.trans hB hkp).trans hB k2⟩; simp only [readR, List.map_append, List.map_cons, List.map_nil, List.dropLast_concat, List.getLast?_concat, Option.getD_some, e2]; exact addTop_snoc _ _ _
theorem wp_letter {P : Program} {code : Code} {Q : Exit -> Act -> World -> Prop} {a : Act} {W : World} {Pr : World -> Prop} (h : Pr W) (k : ∀ z, Pr z -> Code.wp P code Q a z) : Code.wp P code Q a W := k W h
theorem read_any (B g : Nat) (rb : Option Nat) (v : Value) (C : List Opn) (c : Opn) (row : List Tok) (lv : Value) (stop : Int) (last : Bool) (w : World) (hS : StC B g rb w v (C ++ [c])) (h : PBox w g v 0 0) (hr : ToksAt w lv row) (ho : ∀ b, lv.ownBlock = some b -> b < w.heap.size) (hT : LexT w) (hn : row.length <= 900000) (hsh : ∀ t ∈ row, t.text.size <= 1048576) (hq : ∀ t ∈ row, t.kind = 3 -> quoX t.text ≠ none)
  (hC : C.length <= 900000) (hk : ∀ d ∈ C ++ [c], d.x.items.length <= 900000) (hB : B <= w.heap.size) (hg : B <= g) :
  Calls Tryz.prog 49 #[.pointer (some ⟨g, 0, none⟩), lineV lv stop last] w (ReadP B g rb (readK ((C ++ [c]).map (·.x)) row stop last) w) := by
 obtain ⟨ob, oc, rfl⟩ : ∃ ob oc, v = .slice (some ⟨ob, 0, none⟩) (C.length + 1) oc := by
  have hro := hS.row; rw [show (C ++ [c]).length = C.length + 1 by simp] at hro
  obtain ⟨g', cap', q, -⟩ := World.ownsRow.form hro (by omega)
  exact ⟨g', cap', q⟩
 rw [readK_R]; have hA : Below w.heap.size w (w.alloc (.cells #[lv, .int .i64 stop, .bool last] 86)) := (Below.refl _ w).alloc (Nat.le_refl _) _; have hK := kind_any g (some ⟨ob, 0, none⟩) (C.length + 1) oc row lv stop last _ (h.below hA hS.gl) (hr.below hA (Nat.le_refl _)) (fun b e => Nat.lt_of_lt_of_le (ho b e) hA.size) (hT.below hA) hn hsh hq; rw [show ((C ++ [c]).map (·.x)).length = C.length + 1 by simp]
 have HF : Hid (lineK (C.length + 1) row stop last = .fin -> 0 < C.length) := Lib.hid (fun q => by have := lineK_fin q; omega)
 generalize lineK (C.length + 1) row stop last = R at *; obtain ⟨la, lc, rfl, hl1, hl2, -⟩ := hr.len; have HH := Lib.hid (And.intro hS (And.intro hB (And.intro hg (And.intro hC hk)))); clear hS h hr ho hT hn hsh hq hC hk hB hA; generalize row.length = N at *; simp only [lineV] at hK; go_enter Tryz.func49, Tryz.ntmps49; go_wp2_with fail; refine hK.mono ?_; clear hK; rintro _ w4 ⟨hsv, p4, cs, rfl, hin, hi6⟩; obtain ⟨h4, hin4, hkp⟩ := read_kind HH.out.1 HH.out.2.1 HH.out.2.2.1 hsv hin; obtain ⟨xn, xo, xt, va, vn, vc, xla, ln, xlc, ia, ik, ic, rfl⟩ := ItmIn.shape7 hin; simp only [List.getElem?_cons_succ, List.getElem?_cons_zero, Option.some.injEq, Value.slice.injEq] at hi6; obtain ⟨rfl, rfl, rfl⟩ := hi6; clear hsv hin; have HX := Lib.hid (And.intro h4 (And.intro p4 (And.intro hin4 (And.intro hkp trivial)))); clear h4 p4 hin4 hkp; generalize (lnX R).block = xb at *; go_wp2_with (with_reducible first | refine stop_store ?_)
 refine Stop.out ?_; refine wpList_store_all rfl 54 _ _ rfl rfl _ rfl #[.bool xb, .string xn, .string xo, .string xt, .slice va vn vc, .slice xla ln xlc, .slice none 0 0] rfl _ _ (Cells.new w4 zeroIC.toArray 54) rfl (by kernel_rfl) (one7 _ _ _ _ _ _ _ _ _ _ _ _ _) ?_
 rw [World.setRow_alloc_new]; have hb5 : Below w4.heap.size w4 (w4.alloc (.cells #[.bool xb, .string xn, .string xo, .string xt, .slice va vn vc, .slice xla ln xlc, .slice none 0 0] 54)) := (Below.refl _ w4).alloc (Nat.le_refl _) _; have hq5 : Cells (w4.alloc (.cells #[.bool xb, .string xn, .string xo, .string xt, .slice va vn vc, .slice xla ln xlc, .slice none 0 0] 54)) w4.heap.size #[.bool xb, .string xn, .string xo, .string xt, .slice va vn vc, .slice xla ln xlc, .slice none 0 0] 54 := Cells.new w4 #[.bool xb, .string xn, .string xo, .string xt, .slice va vn vc, .slice xla ln xlc, .slice none 0 0] 54; have HX := Lib.hid (read_next HX.out hb5 HH.out.2.1); have hq5l := hq5.lt; generalize w4.alloc (.cells #[.bool xb, .string xn, .string xo, .string xt, .slice va vn vc, .slice xla ln xlc, .slice none 0 0] 54) = w5 at *; have HQ := Lib.hid hq5; clear hb5
 cases R with
 | wrong a e =>
  simp only [lnK]; clear hq5; go_wp2_with fail; refine bodyPost_end (v := .tuple #[]) (by simp [results, Tryz.results49, go_sem]) rfl ?_
  exact ⟨rfl, _, ⟨_, rfl, HX.out.1⟩, HX.out.2.1, HX.out.2.2.2⟩
 | empty =>
  simp only [lnK]; clear hq5; go_wp2_with fail; refine bodyPost_end (v := .tuple #[]) (by simp [results, Tryz.results49, go_sem]) rfl ?_
  exact ⟨rfl, _, ⟨_, rfl, HX.out.1⟩, HX.out.2.1, HX.out.2.2.2⟩
 | attr x =>
  simp only [lnK]; have hC := addC_any _ _ HX.out.1 HX.out.2.1 HX.out.2.2.1 (Nat.le_trans HH.out.2.2.2.1 (by omega)) (Nat.le_trans (HH.out.2.2.2.2 c (by simp)) (by omega)) (Nat.le_trans HH.out.2.1 HX.out.2.2.2.1.size)
  have hq5c0 := hq5.cell 0 _ rfl; have hq5f0 := hq5.frozen 0; have hq5c1 := hq5.cell 1 _ rfl; have hq5f1 := hq5.frozen 1; have hq5c2 := hq5.cell 2 _ rfl; have hq5f2 := hq5.frozen 2; have hq5c3 := hq5.cell 3 _ rfl; have hq5f3 := hq5.frozen 3; have hq5c4 := hq5.cell 4 _ rfl; have hq5f4 := hq5.frozen 4; have hq5c5 := hq5.cell 5 _ rfl; have hq5f5 := hq5.frozen 5; have hq5c6 := hq5.cell 6 _ rfl; have hq5f6 := hq5.frozen 6; clear hq5; go_wp2_with fail; refine hC.mono ?_; clear hC; rintro _ w6 ⟨rfl, c2, e2, s2, p2, k2⟩; have H6 := Lib.hid (And.intro e2 (And.intro s2 (And.intro p2 k2))); clear e2 s2 p2 k2 hq5c0 hq5c1 hq5c2 hq5c3 hq5c4 hq5c5 hq5c6 hq5f0 hq5f1 hq5f2 hq5f3 hq5f4 hq5f5 hq5f6; go_wp2_with fail; refine bodyPost_end (v := .tuple #[]) (by simp [results, Tryz.results49, go_sem]) rfl ?_
  refine ⟨rfl, _, ⟨C ++ [c2], ?_, H6.out.2.1⟩, H6.out.2.2.1, HX.out.2.2.2.trans HH.out.2.1 H6.out.2.2.2⟩; simp only [readR, List.map_append, List.map_cons, List.map_nil, H6.out.1]; exact addTop_snoc _ _ _
 | begins x =>
  simp only [lnK]; have hq5c0 := hq5.cell 0 _ rfl; have hq5f0 := hq5.frozen 0; have hq5c1 := hq5.cell 1 _ rfl; have hq5f1 := hq5.frozen 1; have hq5c2 := hq5.cell 2 _ rfl; have hq5f2 := hq5.frozen 2; have hq5c3 := hq5.cell 3 _ rfl; have hq5f3 := hq5.frozen 3; have hq5c4 := hq5.cell 4 _ rfl; have hq5f4 := hq5.frozen 4; have hq5c5 := hq5.cell 5 _ rfl; have hq5f5 := hq5.frozen 5; have hq5c6 := hq5.cell 6 _ rfl; have hq5f6 := hq5.frozen 6; clear hq5; obtain ⟨i0, hi0, hi1⟩ := Option.map_eq_some_iff.1 Tryz.infoItm; simp only [Prod.mk.injEq] at hi1; obtain ⟨hz0, hz1, hz2⟩ := hi1
  obtain ⟨n, os, v, HV, hn9, HL, HQ2, hpc, hvg⟩ : ∃ (n : Nat) (os : List Value) (v : Value), Hid (n = C.length + 1 /\ os = (C ++ [c]).flatMap (·.cs) /\ v = .slice (some ⟨ob, 0, none⟩) n oc) /\ n <= 1000000 /\ Hid (os.length = n * 7) /\
    Hid (((w5.alloc (.cells zeroIC.toArray 54)).drew.ownsRow B 54 7 (.slice (some ⟨ob, 0, none⟩) n oc) n os) /\ (Cells (w5.alloc (.cells zeroIC.toArray 54)).drew g #[.slice (some ⟨ob, 0, none⟩) n oc, .int .i64 0, .int .i64 0] 83) /\
    (∀ (j : Nat) (u : Value), zeroIC[j]? = some u -> (w5.alloc (.cells zeroIC.toArray 54)).drew.cell? ⟨w5.heap.size, j, none⟩ = some u) /\ B <= (w5.alloc (.cells zeroIC.toArray 54)).drew.heap.size /\ (w5.alloc (.cells zeroIC.toArray 54)).drew.heap.size = w5.heap.size + 1 /\ Below w5.heap.size w5 (w5.alloc (.cells zeroIC.toArray 54)).drew) /\
    w5.cell? ⟨g, 0, none⟩ = some (.slice (some ⟨ob, 0, none⟩) n oc) /\ ¬ ob = g := by
   have hr := HX.out.1.row; rw [show (C ++ [c]).length = C.length + 1 by simp] at hr
   exact ⟨_, _, _, Lib.hid ⟨rfl, rfl, rfl⟩, by have := HH.out.2.2.2.1; omega, Lib.hid hr.1, Lib.hid (push_at (Nat.le_trans HH.out.2.1 HX.out.2.2.2.1.size) hr HX.out.2.1), HX.out.2.1.cell 0 _ rfl, fun q => HX.out.1.apart.vg (by rw [q]; rfl)⟩
  have hg5 := HX.out.1.gl; have hkk : (n : Int) < (n : Int) + 1 := by omega
  go_wp2_with fail
  go_region_law (first
   | (refine step_append_lies _ rfl _ _ 42 rfl B 54 i0 _ 7 128 Tryz.underlying42 hi0 hz0 hz1 hz2 rfl (by decide) (.slice (some ⟨ob, 0, none⟩) n oc) n os (by rfl) (by exact HQ2.out.1) ⟨w5.heap.size, 0, none⟩ 1 1 zeroIC (by rfl) rfl (by intro j u hu; rw [Addr.add_lit, Nat.zero_add]; exact HQ2.out.2.2.1 j u hu) zeroIC_one (by omega) (by unfold maxLen; omega) (by omega) (by exact HQ2.out.2.2.2.1) _ rfl ?_; intro g3 cap3 w3 hown3 hgrow3 hat3 hlt3; have hgp := HQ2.out.2.1.kept hgrow3 (fun q => hvg (Option.some.inj q).symm); have o7c := hgp.cell 0 _ rfl; have o7f := hgp.frozen 0; have m0 := new_at0 hown3 HL.out; have m0f := hown3.frozenAt (n * 7); have m1 := new_at hown3 HL.out 1 _ rfl; have m1f := hown3.frozenAt (n * 7 + 1); have m2 := new_at hown3 HL.out 2 _ rfl; have m2f := hown3.frozenAt (n * 7 + 2); have m3 := new_at hown3 HL.out 3 _ rfl; have m3f := hown3.frozenAt (n * 7 + 3); have m4 := new_at hown3 HL.out 4 _ rfl; have m4f := hown3.frozenAt (n * 7 + 4); have m5 := new_at hown3 HL.out 5 _ rfl; have m5f := hown3.frozenAt (n * 7 + 5); have m6 := new_at hown3 HL.out 6 _ rfl; have m6f := hown3.frozenAt (n * 7 + 6); have hg3 := push_far hat3 HQ2.out.2.2.2.2.1 (fun q => hvg (Option.some.inj q)) hg5; have hg3' : ¬ g = g3 := fun e => hg3 e.symm; have HG := Lib.hid (And.intro hown3 (And.intro hgrow3 (And.intro hat3 hgp))); clear hown3 hgrow3 hat3 hgp))
  all_goals
   go_wp2_with fail
  all_goals
   refine bodyPost_end (v := .tuple #[]) (by simp [results, Tryz.results49, go_sem]) rfl ?_
  all_goals
   obtain ⟨q1, q2, q3, q4⟩ := HG.out; refine begin_done (g3 := g3) (cap3 := cap3) (xs := [.bool xb, .string xn, .string xo, .string xt, .slice va vn vc, .slice xla ln xlc, .slice none 0 0]) HX.out HH.out.2.2.1 rfl HV.out.1 HV.out.2.1 HH.out.2.1 HQ2.out.2.2.2.2.2 HQ2.out.2.2.2.2.1 ?_
   first
    | with_reducible exact push_c1 HL.out hg3 q1 q2 q3 q4
    | with_reducible exact push_c2 HL.out hg3 q1 q2 q3 q4
 | bare x =>
  simp only [lnK]; have hq5c0 := hq5.cell 0 _ rfl; have hq5f0 := hq5.frozen 0; have hq5c1 := hq5.cell 1 _ rfl; have hq5f1 := hq5.frozen 1; have hq5c2 := hq5.cell 2 _ rfl; have hq5f2 := hq5.frozen 2; have hq5c3 := hq5.cell 3 _ rfl; have hq5f3 := hq5.frozen 3; have hq5c4 := hq5.cell 4 _ rfl; have hq5f4 := hq5.frozen 4; have hq5c5 := hq5.cell 5 _ rfl; have hq5f5 := hq5.frozen 5; have hq5c6 := hq5.cell 6 _ rfl; have hq5f6 := hq5.frozen 6; clear hq5; obtain ⟨i0, hi0, hi1⟩ := Option.map_eq_some_iff.1 Tryz.infoItm; simp only [Prod.mk.injEq] at hi1; obtain ⟨hz0, hz1, hz2⟩ := hi1
  obtain ⟨n, os, v, HV, hn9, HL, HQ2, hpc, hvg⟩ : ∃ (n : Nat) (os : List Value) (v : Value), Hid (n = C.length + 1 /\ os = (C ++ [c]).flatMap (·.cs) /\ v = .slice (some ⟨ob, 0, none⟩) n oc) /\ n <= 1000000 /\ Hid (os.length = n * 7) /\
    Hid (((w5.alloc (.cells zeroIC.toArray 54)).drew.ownsRow B 54 7 (.slice (some ⟨ob, 0, none⟩) n oc) n os) /\ (Cells (w5.alloc (.cells zeroIC.toArray 54)).drew g #[.slice (some ⟨ob, 0, none⟩) n oc, .int .i64 0, .int .i64 0] 83) /\
    (∀ (j : Nat) (u : Value), zeroIC[j]? = some u -> (w5.alloc (.cells zeroIC.toArray 54)).drew.cell? ⟨w5.heap.size, j, none⟩ = some u) /\ B <= (w5.alloc (.cells zeroIC.toArray 54)).drew.heap.size /\ (w5.alloc (.cells zeroIC.toArray 54)).drew.heap.size = w5.heap.size + 1 /\ Below w5.heap.size w5 (w5.alloc (.cells zeroIC.toArray 54)).drew) /\
    w5.cell? ⟨g, 0, none⟩ = some (.slice (some ⟨ob, 0, none⟩) n oc) /\ ¬ ob = g := by
   have hr := HX.out.1.row; rw [show (C ++ [c]).length = C.length + 1 by simp] at hr
   exact ⟨_, _, _, Lib.hid ⟨rfl, rfl, rfl⟩, by have := HH.out.2.2.2.1; omega, Lib.hid hr.1, Lib.hid (push_at (Nat.le_trans HH.out.2.1 HX.out.2.2.2.1.size) hr HX.out.2.1), HX.out.2.1.cell 0 _ rfl, fun q => HX.out.1.apart.vg (by rw [q]; rfl)⟩
  have hg5 := HX.out.1.gl; have hkk : (n : Int) < (n : Int) + 1 := by omega
  go_wp2_with fail
  go_region_law (first
   | (refine step_append_lies _ rfl _ _ 42 rfl B 54 i0 _ 7 128 Tryz.underlying42 hi0 hz0 hz1 hz2 rfl (by decide) (.slice (some ⟨ob, 0, none⟩) n oc) n os (by rfl) (by exact HQ2.out.1) ⟨w5.heap.size, 0, none⟩ 1 1 zeroIC (by rfl) rfl (by intro j u hu; rw [Addr.add_lit, Nat.zero_add]; exact HQ2.out.2.2.1 j u hu) zeroIC_one (by omega) (by unfold maxLen; omega) (by omega) (by exact HQ2.out.2.2.2.1) _ rfl ?_; intro g3 cap3 w3 hown3 hgrow3 hat3 hlt3; have hgp := HQ2.out.2.1.kept hgrow3 (fun q => hvg (Option.some.inj q).symm); have o7c := hgp.cell 0 _ rfl; have o7f := hgp.frozen 0; have m0 := new_at0 hown3 HL.out; have m0f := hown3.frozenAt (n * 7); have m1 := new_at hown3 HL.out 1 _ rfl; have m1f := hown3.frozenAt (n * 7 + 1); have m2 := new_at hown3 HL.out 2 _ rfl; have m2f := hown3.frozenAt (n * 7 + 2); have m3 := new_at hown3 HL.out 3 _ rfl; have m3f := hown3.frozenAt (n * 7 + 3); have m4 := new_at hown3 HL.out 4 _ rfl; have m4f := hown3.frozenAt (n * 7 + 4); have m5 := new_at hown3 HL.out 5 _ rfl; have m5f := hown3.frozenAt (n * 7 + 5); have m6 := new_at hown3 HL.out 6 _ rfl; have m6f := hown3.frozenAt (n * 7 + 6); have hg3 := push_far hat3 HQ2.out.2.2.2.2.1 (fun q => hvg (Option.some.inj q)) hg5; have hg3' : ¬ g = g3 := fun e => hg3 e.symm; have HG := Lib.hid (And.intro hown3 (And.intro hgrow3 (And.intro hat3 hgp))); clear hown3 hgrow3 hat3 hgp))
  all_goals go_upto_region 10 with fail
  all_goals
   obtain ⟨q1, q2, q3, q4⟩ := HG.out
   refine wp_letter (Pr := PushE B g n g3 cap3 0 0 os [.bool xb, .string xn, .string xo, .string xt, .slice va vn vc, .slice xla ln xlc, .slice none 0 0] (.slice (some ⟨ob, 0, none⟩) n oc) (w5.alloc (.cells zeroIC.toArray 54)).drew) (by
    first
     | with_reducible exact push_c1 HL.out hg3 q1 q2 q3 q4
     | with_reducible exact push_c2 HL.out hg3 q1 q2 q3 q4) (fun wc hE => ?_)
   clear q1 q2 q3 q4 HG m0 m1 m2 m3 m4 m5 m6 m0f m1f m2f m3f m4f m5f m6f o7c o7f; obtain ⟨p1, p2, p3⟩ := push_done HX.out HH.out.2.2.1 rfl HV.out.1 HV.out.2.1 HH.out.2.1 HQ2.out.2.2.2.2.2 HQ2.out.2.2.2.2.1 hE; have hx9 : (Opn.mk (lnX (LnR.bare x)) [.bool xb, .string xn, .string xo, .string xt, .slice va vn vc, .slice xla ln xlc, .slice none 0 0] (.slice none 0 0)).x = x := rfl; generalize (Opn.mk (lnX (LnR.bare x)) [.bool xb, .string xn, .string xo, .string xt, .slice va vn vc, .slice xla ln xlc, .slice none 0 0] (.slice none 0 0)) = c9 at *; have HX9 := Lib.hid hx9; clear hx9; have hlC : (C ++ [c]).length = C.length + 1 := by simp
   rw [<- hlC] at p1 p2; have HX5 := Lib.hid (And.intro p1 (And.intro p2 (And.intro trivial p3))); have HLC := Lib.hid hlC; clear p1 p2 p3 hE hlC hpc hvg hg5 hkk; clear hq5c0 hq5c1 hq5c2 hq5c3 hq5c4 hq5c5 hq5c6 hq5f0 hq5f1 hq5f2 hq5f3 hq5f4 hq5f5 hq5f6; have HX := HX5; clear HX5; obtain ⟨tb, tn, tO, tt, ta, t1, t2, tla, t3, t4, tia, t5, t6, hcs⟩ := (HX.out.1.all c9 (by simp)).shape
   obtain ⟨n2, m, HV, hm9, hnm, hmn, hpc, f0, f1, f2, f3, f4, f5, f6⟩ : ∃ (n2 m : Nat), Hid (n2 = (C ++ [c]).length + 1 /\ m = (C ++ [c]).length) /\ m <= 1000000 /\ (n2 : Int) - 1 = (m : Int) /\ m < n2 /\ wc.cell? ⟨g, 0, none⟩ = some (.slice (some ⟨g3, 0, none⟩) n2 cap3) /\ wc.cell? ⟨g3, m * 7, none⟩ = some (.bool tb) /\ wc.cell? ⟨g3, m * 7 + 1, none⟩ = some (.string tn) /\ wc.cell? ⟨g3, m * 7 + 2, none⟩ = some (.string tO) /\
     wc.cell? ⟨g3, m * 7 + 3, none⟩ = some (.string tt) /\ wc.cell? ⟨g3, m * 7 + 4, none⟩ = some (.slice ta t1 t2) /\ wc.cell? ⟨g3, m * 7 + 5, none⟩ = some (.slice tla t3 t4) /\ wc.cell? ⟨g3, m * 7 + 6, none⟩ = some (.slice tia t5 t6) := by
    have ht := top_at HX.out.1; rw [hcs] at ht; exact ⟨_, _, Lib.hid ⟨rfl, rfl⟩, by have := HH.out.2.2.2.1; rw [HLC.out]; omega, by omega, by omega, HX.out.2.1.cell 0 _ rfl, ht 0 _ rfl, ht 1 _ rfl, ht 2 _ rfl, ht 3 _ rfl, ht 4 _ rfl, ht 5 _ rfl, ht 6 _ rfl⟩
   have hg5 := HX.out.1.gl; have HCS := Lib.hid (And.intro hcs trivial); have hob5 : g3 < wc.heap.size := (HX.out.1.lt (.inl rfl)).2; clear hcs; go_cut [6] (fun x wk => ∃ p6 : Nat, x = .pointer (some ⟨p6, 0, none⟩) /\ Cells wk p6 #[.bool tb, .string tn, .string tO, .string tt, .slice ta t1 t2, .slice tla t3 t4, .slice tia t5 t6] 54 /\ ¬ p6 = g /\ Below wc.heap.size wc wk)
   case first =>
    go_region
    all_goals go_wp2_with fail
    all_goals go_meet
    all_goals exact ⟨_, rfl, (Cells.new _ _ _).drew, by omega, ((Below.refl _ _).alloc (Nat.le_refl _) _).drew⟩
   case rest =>
    obtain ⟨p6, rfl, k6, hp6, hb6⟩ := hcut; have HX6 := Lib.hid (read_nextT ⟨HX.out.1, HX.out.2.1, trivial, HX.out.2.2.2⟩ hb6 HH.out.2.1); have hpc6 := HX6.out.2.1.cell 0 _ rfl; have hpf6 := HX6.out.2.1.frozen 0; have hg6 := HX6.out.1.gl
    have hmo : m <= cap3 := by
     have hr := HX6.out.1.row; rcases hr.2 with ⟨q, -⟩ | ⟨_, _, _, q, -, -, q3, -⟩
     ·cases q
     ·injection q with _ q1 q2
      have := HV.out; omega
    have h6l := k6.lt; rw [<- HV.out.1] at hpc6; have HK6 := Lib.hid k6; have hp6' : ¬ g = p6 := fun e => hp6 e.symm; clear hpc f0 f1 f2 f3 f4 f5 f6 hb6; have k6c0 := k6.cell 0 _ rfl; have k6f0 := k6.frozen 0; have k6c1 := k6.cell 1 _ rfl; have k6f1 := k6.frozen 1; have k6c2 := k6.cell 2 _ rfl; have k6f2 := k6.frozen 2; have k6c3 := k6.cell 3 _ rfl; have k6f3 := k6.frozen 3; have k6c4 := k6.cell 4 _ rfl; have k6f4 := k6.frozen 4; have k6c5 := k6.cell 5 _ rfl; have k6f5 := k6.frozen 5; have k6c6 := k6.cell 6 _ rfl; have k6f6 := k6.frozen 6; clear k6; go_wp2_with fail; go_region
    all_goals go_wp2_with fail
    all_goals
     have hA := fin_call (xs := [.bool tb, .string tn, .string tO, .string tt, .slice ta t1 t2, .slice tla t3 t4, .slice tia t5 t6]) ⟨HX6.out.1, HX6.out.2.1, HX6.out.2.2.1, HX6.out.2.2.2⟩ (by simp) HCS.out.1 (by have := HH.out.2.2.2.1; rw [HLC.out]; omega) HH.out.2.2.2.2 HH.out.2.1 HH.out.2.2.1 HV.out.2
     refine hA.mono ?_; clear hA; rintro _ w9 ⟨rfl, hR9⟩; have HR9 := Lib.hid hR9; clear hR9; go_wp2_with fail; refine bodyPost_end (v := .tuple #[]) (by simp [results, Tryz.results49, go_sem]) rfl ?_
     have hR9 := HR9.out; rw [List.map_append (l₁ := C ++ [c]), List.map_cons, List.map_nil, readR_bare, HX9.out] at hR9; exact hR9
 | fin =>
  simp only [lnK]; have hC0 := HF.out rfl; obtain ⟨tb, tn, tO, tt, ta, t1, t2, tla, t3, t4, tia, t5, t6, hcs⟩ := (HX.out.1.all c (by simp)).shape
  obtain ⟨n, m, HV, hm9, hnm, hmn, hpc, f0, f1, f2, f3, f4, f5, f6⟩ : ∃ (n m : Nat), Hid (n = C.length + 1 /\ m = C.length) /\ m <= 1000000 /\ (n : Int) - 1 = (m : Int) /\ m < n /\ w5.cell? ⟨g, 0, none⟩ = some (.slice (some ⟨ob, 0, none⟩) n oc) /\ w5.cell? ⟨ob, m * 7, none⟩ = some (.bool tb) /\ w5.cell? ⟨ob, m * 7 + 1, none⟩ = some (.string tn) /\ w5.cell? ⟨ob, m * 7 + 2, none⟩ = some (.string tO) /\
    w5.cell? ⟨ob, m * 7 + 3, none⟩ = some (.string tt) /\ w5.cell? ⟨ob, m * 7 + 4, none⟩ = some (.slice ta t1 t2) /\ w5.cell? ⟨ob, m * 7 + 5, none⟩ = some (.slice tla t3 t4) /\ w5.cell? ⟨ob, m * 7 + 6, none⟩ = some (.slice tia t5 t6) := by
   have ht := top_at HX.out.1; rw [hcs] at ht; exact ⟨_, _, Lib.hid ⟨rfl, rfl⟩, by have := HH.out.2.2.2.1; omega, by omega, by omega, HX.out.2.1.cell 0 _ rfl, ht 0 _ rfl, ht 1 _ rfl, ht 2 _ rfl, ht 3 _ rfl, ht 4 _ rfl, ht 5 _ rfl, ht 6 _ rfl⟩
  have hg5 := HX.out.1.gl; have HCS := Lib.hid (And.intro hcs hC0); have hob5 : ob < w5.heap.size := (HX.out.1.lt (.inl rfl)).2; clear hq5 hcs hC0; go_upto_region 10 with fail
  go_cut [6] (fun x wc => ∃ p6 : Nat, x = .pointer (some ⟨p6, 0, none⟩) /\ Cells wc p6 #[.bool tb, .string tn, .string tO, .string tt, .slice ta t1 t2, .slice tla t3 t4, .slice tia t5 t6] 54 /\ ¬ p6 = g /\ Below w5.heap.size w5 wc)
  case first =>
   go_region
   all_goals go_wp2_with fail
   all_goals go_meet
   all_goals exact ⟨_, rfl, (Cells.new _ _ _).drew, by omega, ((Below.refl _ _).alloc (Nat.le_refl _) _).drew⟩
  case rest =>
   obtain ⟨p6, rfl, k6, hp6, hb6⟩ := hcut; have HX6 := Lib.hid (read_next (p := True) ⟨HX.out.1, HX.out.2.1, HX.out.2.2.1, HX.out.2.2.2, trivial⟩ hb6 HH.out.2.1); have hpc6 := HX6.out.2.1.cell 0 _ rfl; have hpf6 := HX6.out.2.1.frozen 0; have hg6 := HX6.out.1.gl
   have hmo : m <= oc := by
    have hr := HX6.out.1.row; rcases hr.2 with ⟨q, -⟩ | ⟨_, _, _, q, -, -, q3, -⟩
    ·cases q
    ·injection q with _ q1 q2
     have := HV.out; omega
   have h6l := k6.lt; rw [<- HV.out.1] at hpc6; have HK6 := Lib.hid k6; have hp6' : ¬ g = p6 := fun e => hp6 e.symm; clear hpc f0 f1 f2 f3 f4 f5 f6 hb6; have k6c0 := k6.cell 0 _ rfl; have k6f0 := k6.frozen 0; have k6c1 := k6.cell 1 _ rfl; have k6f1 := k6.frozen 1; have k6c2 := k6.cell 2 _ rfl; have k6f2 := k6.frozen 2; have k6c3 := k6.cell 3 _ rfl; have k6f3 := k6.frozen 3; have k6c4 := k6.cell 4 _ rfl; have k6f4 := k6.frozen 4; have k6c5 := k6.cell 5 _ rfl; have k6f5 := k6.frozen 5; have k6c6 := k6.cell 6 _ rfl; have k6f6 := k6.frozen 6; clear k6; go_wp2_with fail; go_region
   all_goals go_wp2_with fail
   all_goals
    have hA := fin_call (xs := [.bool tb, .string tn, .string tO, .string tt, .slice ta t1 t2, .slice tla t3 t4, .slice tia t5 t6]) ⟨HX6.out.1, HX6.out.2.1, HX6.out.2.2.1, HX6.out.2.2.2⟩ HCS.out.2 HCS.out.1 (Nat.le_succ_of_le HH.out.2.2.2.1) (fun d hd => HH.out.2.2.2.2 d (by simp [hd])) HH.out.2.1 HH.out.2.2.1 HV.out.2
    refine hA.mono ?_; clear hA; rintro _ w9 ⟨rfl, hR9⟩; have HR9 := Lib.hid hR9; clear hR9; go_wp2_with fail; refine bodyPost_end (v := .tuple #[]) (by simp [results, Tryz.results49, go_sem]) rfl ?_
    exact HR9.out
end Go.Proofs.YtbcdaaobbebooaaGreatDoor
namespace Go.Proofs.YtbcdaaobbebooaaGreatDoor
set_option maxRecDepth 100000
set_option maxHeartbeats 20000000
def KT (f : Tok -> Tok) : Prop := ∀ t, (f t).kind = t.kind /\ (f t).text = t.text
section
variable {f : Tok -> Tok} (hf : KT f)
include hf
theorem isS_map (r : List Tok) (w : ByteArray) : isS (r.map f) w = isS r w := by
 cases r with
 | nil => rfl
 | cons t r => simp only [List.map_cons, isS, (hf t).1, (hf t).2]
theorem isL_map (r : List Tok) (lv : Nat) : isL (r.map f) lv = isL r lv := by
 cases r with
 | nil => rfl
 | cons t r => simp only [List.map_cons, isL, (hf t).1, (hf t).2]
omit hf in
theorem badX_map (r : List Tok) (n : Nat) : badX (r.map f) n = badX r n := by cases r <;> rfl
theorem parX_map : ∀ (n : Nat) (t : Nt) (r : List Tok) (d : Nat), parX n t (r.map f) d = parX n t r d := by
 intro n
 induction n with
 | zero => intros; rfl
 | succ n ih =>
  intro t r d
  cases t with
  | ploop a =>
   simp only [parX, <- List.map_drop, isS_map hf, badX_map, ih]
   cases hq : r.drop 1 with
   | nil => rfl
   | cons t q => simp only [List.map_cons, (hf t).1, (hf t).2]
  | prime =>
   cases r with
   | nil => rfl
   | cons t r => 
    have e1 := isS_map hf (t :: r); have e2 := badX_map (f := f) (t :: r); have e3 := ih (.many sRb) (t :: r); have e4 := fun k => List.map_drop (l := t :: r) (i := k) (f := f); simp only [List.map_cons] at e1 e2 e3 e4; simp only [List.map_cons, parX, (hf t).1, (hf t).2, e1, e2, e3, <- e4, isS_map hf, badX_map, ih]
  | _ => simp only [parX, <- List.map_drop, isS_map hf, isL_map hf, badX_map, ih]
theorem parE_map (r : List Tok) : parE (r.map f) = parE r := by
 unfold parE fuelX; simp only [List.length_map, parX_map hf]
theorem labs_map : ∀ r : List Tok, labs (r.map f) = labs r
 | [] => rfl
 | t :: r => by simp only [List.map_cons, labs, (hf t).1, (hf t).2, labs_map r]
end
theorem Itm.add_items (t x : Itm) : (t.add x).items = t.items ++ [x] := by cases t; rfl
theorem readR_fin {n : Nat} {row : List Tok} {stop : Int} {last : Bool} {st : List Itm} (hl : st.length = n) (h : lineK n row stop last = .fin) : st.length ≠ 1 := by
 rw [hl]; exact lineK_fin h
theorem lackR_ne (row : List Tok) (stop : Int) (last : Bool) (i : Nat) : ∃ a e, e ≠ 0 /\ lackR row stop last i = .wrong a e := by
 unfold lackR; split
 ·exact ⟨_, 3, by decide, rfl⟩
 ·split
  ·exact ⟨_, 2, by decide, rfl⟩
  ·exact ⟨_, 3, by decide, rfl⟩
theorem lineK_last (n : Nat) (row : List Tok) (stop stop2 : Int) (last last2 : Bool) : lineK n row stop2 last2 = lineK n row stop last \/ ∃ a e, e ≠ 0 /\ lineK n row stop last = .wrong a e := by
 cases row with
 | nil => exact .inl rfl
 | cons t r =>
  simp only [lineK]; split
  ·split
   ·exact .inr (lackR_ne _ _ _ _)
   ·split
    ·exact .inr (lackR_ne _ _ _ _)
    ·exact .inl rfl
  ·split
   ·exact .inr (lackR_ne _ _ _ _)
   ·split
    ·unfold attrK
     split
     ·exact .inr (lackR_ne _ _ _ _)
     ·exact .inl rfl
    ·unfold blockK
     simp only; split
     ·exact .inr (lackR_ne _ _ _ _)
     ·split
      ·exact .inl rfl
      ·split
       ·exact .inl rfl
       ·split
        ·exact .inr (lackR_ne _ _ _ _)
        ·split
         ·exact .inr (lackR_ne _ _ _ _)
         ·exact .inl rfl
theorem addTop_ne {st : List Itm} (h : st ≠ []) (x : Itm) : addTop st x ≠ [] := fun e => by
 have := addTop_len st x; rw [e] at this; exact h (List.eq_nil_of_length_eq_zero this.symm)
theorem readK_ne {st : List Itm} (hs : st ≠ []) (row : List Tok) (stop : Int) (last : Bool) : (readK st row stop last).1 ≠ [] := by
 rw [readK_R]; have hf := fun e => readR_fin (st := st) (row := row) (stop := stop) (last := last) rfl e
 revert hf
 cases lineK st.length row stop last with
 | wrong a e => intro _; exact hs
 | empty => intro _; exact hs
 | attr x => intro _; exact addTop_ne hs x
 | begins x => intro _; simp [readR]
 | bare x => intro _; exact addTop_ne hs x
 | fin =>
  intro hf; refine addTop_ne (fun e => hf rfl ?_) _; have h1 := congrArg List.length e; have h2 := List.length_pos_iff.2 hs; rw [List.length_dropLast, List.length_nil] at h1; omega
theorem linesP_of {l : Bs} (h : (lexL l 0).2.2 = 0) : linesP l = linesF l.length (lexL l 0).1 [zeroI] [] := by
 unfold linesP lexP; rw [if_pos h]; simp
theorem linesP_bad {l : Bs} (h : (lexL l 0).2.2 ≠ 0) : linesP l = ([], (lexL l 0).2) := by
 unfold linesP lexP; rw [if_neg h]; simp only; rw [if_pos h]
end Go.Proofs.YtbcdaaobbebooaaGreatDoor
namespace Go.Proofs.YtbcdaaobbebooaaGreatDoor
set_option maxRecDepth 100000
set_option maxHeartbeats 20000000
def Small (m : Nat) (st : List Itm) : Prop := st ≠ [] /\ st.length <= m + 1 /\ ∀ x ∈ st, x.items.length <= m
theorem Small.le {m k : Nat} {st : List Itm} (h : Small m st) (hk : m <= k) : Small k st := ⟨h.1, Nat.le_trans h.2.1 (by omega), fun x hx => Nat.le_trans (h.2.2 x hx) hk⟩
def LnR.leaf : LnR -> Prop
 | .attr x => x.items = []
 | .begins x => x.items = []
 | .bare x => x.items = []
 | _ => True
theorem lackR_leaf (row : List Tok) (stop : Int) (last : Bool) (i : Nat) : (lackR row stop last i).leaf := by
 obtain ⟨a, e, -, h⟩ := lackR_ne row stop last i; rw [h]; trivial
theorem lineK_leaf (n : Nat) (row : List Tok) (stop : Int) (last : Bool) : (lineK n row stop last).leaf := by
 cases row with
 | nil => trivial
 | cons t r =>
  simp only [lineK]; split
  ·split
   ·exact lackR_leaf ..
   ·split
    ·exact lackR_leaf ..
    ·trivial
  ·split
   ·exact lackR_leaf ..
   ·split
    ·unfold attrK
     split
     ·exact lackR_leaf ..
     ·split
      ·rfl
      ·split <;> trivial
    ·unfold blockK
     simp only; split
     ·exact lackR_leaf ..
     ·split
      ·split <;> trivial
      ·split
       ·rfl
       ·split
        ·exact lackR_leaf ..
        ·split
         ·exact lackR_leaf ..
         ·rfl
def LnR.calm : LnR -> Prop
 | .wrong a e => e = 0 -> a = 0
 | _ => True
theorem lackR_calm (row : List Tok) (stop : Int) (last : Bool) (i : Nat) : (lackR row stop last i).calm := by
 obtain ⟨a, e, he, h⟩ := lackR_ne row stop last i; rw [h]; exact fun q => absurd q he
theorem lineK_calm (n : Nat) (row : List Tok) (stop : Int) (last : Bool) : (lineK n row stop last).calm := by
  cases row with
  | nil => trivial
  | cons t r =>
    simp only [lineK]; split
    . split
      . exact lackR_calm ..
      . split
        . exact lackR_calm ..
        . trivial
    . split
      . exact lackR_calm ..
      . split
        . unfold attrK
          split
          . exact lackR_calm ..
          . split
            . trivial
            . next h1 h2 => split
                            . exact fun q => absurd q h2
                            . exact fun _ => rfl
        . unfold blockK
          simp only; split
          . exact lackR_calm ..
          . split
            . split
              . exact fun q => by cases q
              . exact fun _ => rfl
            . split
              . trivial
              . split
                . exact lackR_calm ..
                . split
                  . exact lackR_calm ..
                  . trivial
theorem readK_zero {st : List Itm} {row : List Tok} {stop : Int} {last : Bool} (h : (readK st row stop last).2.2 = 0) : (readK st row stop last).2.1 = 0 := by
 rw [readK_R] at h ⊢; have hc := lineK_calm st.length row stop last
 revert h hc
 cases lineK st.length row stop last with
 | wrong a e => intro h hc; exact hc h
 | _ => intro _ _; rfl
theorem addTop_small : ∀ (st : List Itm) (x : Itm) (m : Nat), (∀ y ∈ st, y.items.length <= m) -> ∀ y ∈ addTop st x, y.items.length <= m + 1
 | [], _, _, _, y, hy => by cases hy
 | [t], x, m, h, y, hy => by
  simp only [addTop, List.mem_singleton] at hy; subst hy; rw [Itm.add_items, List.length_append]; have := h t (by simp)
  simpa using this
 | t :: u :: r, x, m, h, y, hy => by
  simp only [addTop, List.mem_cons] at hy; rcases hy with rfl | hy
  ·exact Nat.le_succ_of_le (h _ (by simp))
  ·exact addTop_small (u :: r) x m (fun z hz => h z (by simp at hz ⊢; exact .inr hz)) y hy
theorem readK_small {m : Nat} {st : List Itm} (h : Small m st) (row : List Tok) (stop : Int) (last : Bool) : Small (m + 1) (readK st row stop last).1 := by
 refine ⟨readK_ne h.1 row stop last, ?_⟩; rw [readK_R]; have hl := lineK_leaf st.length row stop last
 revert hl
 cases lineK st.length row stop last with
 | wrong a e => intro _; exact (h.le (Nat.le_succ m)).2
 | empty => intro _; exact (h.le (Nat.le_succ m)).2
 | attr x => intro _; exact ⟨by simp only [readR]; rw [addTop_len]; have := h.2.1; omega, addTop_small _ _ _ h.2.2⟩
 | begins x =>
  intro hl; refine ⟨by simp only [readR, List.length_append, List.length_singleton]; have := h.2.1; omega, fun y hy => ?_⟩
  simp only [readR, List.mem_append, List.mem_singleton] at hy; rcases hy with hy | rfl
  ·exact Nat.le_succ_of_le (h.2.2 y hy)
  ·simp only [LnR.leaf] at hl
   rw [hl]; exact Nat.zero_le _
 | bare x => intro _; exact ⟨by simp only [readR]; rw [addTop_len]; have := h.2.1; omega, addTop_small _ _ _ h.2.2⟩
 | fin =>
  intro _; refine ⟨by simp only [readR]; rw [addTop_len, List.length_dropLast]; have := h.2.1; omega, addTop_small _ _ _ (fun y hy => h.2.2 y (List.dropLast_subset st hy))⟩
theorem zeroI_small : Small 0 [zeroI] := ⟨by simp, by simp, fun x hx => by simp at hx; subst hx; simp [zeroI, Itm.items]⟩
def RestL (size : Int) (toks : List Tok) (k : Nat) (st : List Itm) (row : List Tok) : Prop := linesF size toks [zeroI] [] = linesF size (toks.drop k) st row
theorem RestL.zero (size : Int) (toks : List Tok) : RestL size toks 0 [zeroI] [] := rfl
section
variable {size : Int} {toks : List Tok} {k : Nat} {st : List Itm} {row : List Tok}
theorem RestL.open (h : RestL size toks k st row) (hk : k < toks.length) : linesF size toks [zeroI] [] = (if toks[k].kind = 6 \/ toks[k].kind = 7 then linesF size (toks.drop (k + 1)) st row
  else if toks[k].kind = 5 then
   (if (readK st row toks[k].pos false).2.2 ≠ 0 then ([], (readK st row toks[k].pos false).2) else linesF size (toks.drop (k + 1)) (readK st row toks[k].pos false).1 [])
  else linesF size (toks.drop (k + 1)) st (row ++ [toks[k]])) := by
 unfold RestL at h; rw [h, List.drop_eq_getElem_cons hk, linesF]
theorem RestL.skip (h : RestL size toks k st row) (hk : k < toks.length) (h6 : toks[k].kind = 6 \/ toks[k].kind = 7) : RestL size toks (k + 1) st row := by
 have := h.open hk; rw [if_pos h6] at this; exact this
theorem RestL.bad (h : RestL size toks k st row) (hk : k < toks.length) (h5 : toks[k].kind = 5) (he : (readK st row toks[k].pos false).2.2 ≠ 0) : linesF size toks [zeroI] [] = ([], (readK st row toks[k].pos false).2) := by
 have := h.open hk; rw [if_neg (by omega), if_pos h5, if_pos he] at this
 exact this
theorem RestL.line (h : RestL size toks k st row) (hk : k < toks.length) (h5 : toks[k].kind = 5) (he : (readK st row toks[k].pos false).2.2 = 0) : RestL size toks (k + 1) (readK st row toks[k].pos false).1 [] := by
 have := h.open hk; rw [if_neg (by omega), if_pos h5, if_neg (by omega)] at this
 exact this
theorem RestL.tok (h : RestL size toks k st row) (hk : k < toks.length) (h5 : toks[k].kind ≠ 5) (h6 : ¬ (toks[k].kind = 6 \/ toks[k].kind = 7)) : RestL size toks (k + 1) st (row ++ [toks[k]]) := by
 have := h.open hk; rw [if_neg h6, if_neg h5] at this; exact this
theorem RestL.last (h : RestL size toks k st row) (hk : toks.length <= k) : linesF size toks [zeroI] [] = (if (readK st row size true).2.2 ≠ 0 then ([], (readK st row size true).2)
  else if 1 < (readK st row size true).1.length then ([], size, 2)
  else (((readK st row size true).1.head?.getD zeroI).items, -1, 0)) := by
 unfold RestL at h; rw [h, List.drop_eq_nil_of_le hk, linesF]
end
end Go.Proofs.YtbcdaaobbebooaaGreatDoor
namespace Go.Proofs.YtbcdaaobbebooaaGreatDoor
set_option maxRecDepth 100000
set_option maxHeartbeats 20000000
open Go.RowKit Go.Tab
def BodyP (R : List Itm × Int × Int) (w : World) (e : Ending) (w' : World) : Prop := (∃ v, e = .returned (.tuple #[v, .int .i64 R.2.1, .int .i64 R.2.2]) /\ ItmsAt w' v R.1) /\ Below w.heap.size w w'
theorem ItmsAt.nil {w : World} : ItmsAt w (.slice none 0 0) [] := ⟨none, 0, rfl, Nat.le_refl _, Nat.zero_le _, fun _ => rfl, fun x h => by cases h⟩
theorem ItmAt.items {w : World} {t : Itm} {cs : List Value} {v : Value} (h : ItmAt w t cs) (h6 : cs[6]? = some v) : ItmsAt w v t.items := by
 obtain ⟨b, n, e, ls, its⟩ := t; obtain ⟨vo, vt, vk, lv, a, cap, rfl, -, -, h3, h4, h5, h7⟩ := ItmR.open h; simp only [List.getElem?_cons_succ, List.getElem?_cons_zero, Option.some.injEq] at h6; subst h6; exact ⟨a, cap, rfl, h3, h4, h5, h7⟩
structure InP (toks : List Tok) (size : Int) (B g k : Nat) (C : List Opn) (row : List Tok) (rv v : Value) (w wr : World) : Prop where
 st : StC B g rv.ownBlock wr v C
 box : PBox wr g v 0 0
 own : OwnT B wr rv row
 kept : Below B w wr
 big : B <= wr.heap.size
 rest : RestL size toks k (C.map (·.x)) row
 small : Small k (C.map (·.x))
 len : row.length <= k
 mem : ∀ t ∈ row, t ∈ toks
section
variable {toks : List Tok} {size : Int} {B g k : Nat} {C : List Opn} {row : List Tok} {rv v : Value} {w wr : World}
theorem InP.below (h : InP toks size B g k C row rv v w wr) {w' : World} (hb : Below wr.heap.size wr w') : InP toks size B g k C row rv v w w' :=
 ⟨h.st.below hb, h.box.below hb h.st.gl, h.own.below hb (Nat.le_refl _), h.kept.trans (hb.mono h.big), Nat.le_trans h.big hb.size, h.rest, h.small, h.len, h.mem⟩
theorem InP.skip (h : InP toks size B g k C row rv v w wr) (hk : k < toks.length) (h6 : toks[k].kind = 6 \/ toks[k].kind = 7) : InP toks size B g (k + 1) C row rv v w wr :=
 ⟨h.st, h.box, h.own, h.kept, h.big, h.rest.skip hk h6, h.small.le (Nat.le_succ k), Nat.le_succ_of_le h.len, h.mem⟩
theorem InP.tok (h : InP toks size B g k C row rv v w wr) (hk : k < toks.length) (h5 : toks[k].kind ≠ 5) (h6 : ¬ (toks[k].kind = 6 \/ toks[k].kind = 7)) {g3 n cap3 : Nat} {w3 : World}
  (h1 : OwnT B w3 (.slice (some ⟨g3, 0, none⟩) n cap3) (row ++ [toks[k]])) (h2 : wr.grownBy w3 rv.ownBlock) (h3 : rv.ownBlock = some g3 \/ g3 = wr.heap.size) (h4 : g3 < w3.heap.size) :
  InP toks size B g (k + 1) C (row ++ [toks[k]]) (.slice (some ⟨g3, 0, none⟩) n cap3) v w w3 := by
 have hrl : ∀ b, rv.ownBlock = some b -> B <= b /\ b < wr.heap.size := World.ownsRow.lt h.own; have hk2 : ∀ b, b < wr.heap.size -> b ≠ g -> rv.ownBlock ≠ some b -> w3.heap[b]? = wr.heap[b]? := fun b hb _ hn => h2.block b hb (fun e => hn e.symm); refine ⟨h.st.keep h2.size hk2 (fun b e => ?_), ?_, h1, h.kept.trans ⟨h2.os, h2.tape, h2.output, h2.size, fun b hb => h2.block b (Nat.lt_of_lt_of_le hb h.big) (fun e => by have := (hrl b e.symm).1; omega)⟩, Nat.le_trans h.big h2.size, h.rest.tok hk h5 h6, h.small.le (Nat.le_succ k), by rw [List.length_append]; simpa using h.len, fun t ht => ?_⟩
 ·simp only [Value.ownBlock, Option.some.injEq] at e
  subst e; exact ⟨h3.imp id (fun q => by omega), h4⟩
 ·exact h.box.kept h2 (fun e => h.st.apart.rg e.symm)
 ·rcases List.mem_append.1 ht with ht | ht
  ·exact h.mem t ht
  ·simp at ht; subst ht; exact List.getElem_mem hk
theorem OwnT.none {base : Nat} {a : Option Addr} {n cap : Nat} {l : List Tok} (h : OwnT base w (.slice a n cap) l) : OwnT base w (.slice a 0 cap) [] := by
 obtain ⟨h1, h2⟩ := h; refine ⟨rfl, ?_⟩; rcases h2 with ⟨h2, -⟩ | ⟨g, cap', cur, he, hb, hg, h3, h4, h5, h6⟩
 ·cases h2; exact .inl ⟨rfl, rfl⟩
 ·cases he; exact .inr ⟨_, _, cur, rfl, hb, hg, Nat.zero_le _, h4, h5, by simp⟩
theorem OwnT.capB {base : Nat} {a : Option Addr} {n cap : Nat} {l : List Tok} (h : OwnT base w (.slice a n cap) l) : n = l.length /\ n <= cap /\ cap <= maxLen := by
 obtain ⟨h1, h2⟩ := h; rcases h2 with ⟨h2, h3⟩ | ⟨g, cap', cur, he, hb, hg, h3, h4, h5, h6⟩
 ·cases h2; exact ⟨h3.symm, Nat.le_refl _, Nat.zero_le _⟩
 ·cases he; exact ⟨rfl, h3, h4⟩
theorem InP.line {a : Option Addr} {n cap : Nat} (h : InP toks size B g k C row (.slice a n cap) v w wr) (hk : k < toks.length) (h5 : toks[k].kind = 5) (he : (readK (C.map (·.x)) row toks[k].pos false).2.2 = 0) {w3 : World} {v3 : Value} {C3 : List Opn} {e1 : Int}
  (h0 : (readK (C.map (·.x)) row toks[k].pos false).1 = C3.map (·.x)) (h1 : StC B g (Value.slice a n cap).ownBlock w3 v3 C3) (h2 : PBox w3 g v3 e1 (readK (C.map (·.x)) row toks[k].pos false).2.2) (h21 : e1 = 0) (h3 : KeepR B (Value.slice a n cap).ownBlock wr w3) :
  InP toks size B g (k + 1) C3 [] (.slice a 0 cap) v3 w w3 := by
 rw [he] at h2; subst h21; have hob : (Value.slice a 0 cap).ownBlock = (Value.slice a n cap).ownBlock := by cases a <;> rfl
 exact ⟨by rw [hob]; exact h1, h2, (h.own.moved (fun b e => h3.2 b e)).none, h.kept.trans h3.1, Nat.le_trans h.big h3.1.size, by rw [<- h0]; exact h.rest.line hk h5 he, by rw [<- h0]; exact readK_small h.small _ _ _, Nat.zero_le _, fun t ht => by cases ht⟩
end
section
variable {P : Program} {w : World} {ops : Array Oper} {rest : List Oper} {o : Oper} {a : Act} {Q : Exit -> Act -> World -> Prop}
theorem wpList_slice_none (hgd : Region.wanted o (yielded ops a.tmps) = true) (x hi : Operand) (t : TypeId) (sz : Nat) (ho : o.op = .slice t x none (some hi) none)
  (ht : P.underlying t = some (.slice (P.elem t))) (hs : (P.info? (P.elem t)).map (fun i => i.size) = some sz)
  (ad : Option Addr) (n cap : Nat) (hx : a.eval x = .slice ad n cap) (k : IntKind) (eH : a.eval hi = .int k 0)
  (hK : wpList P ops Q rest (a.put o.dst (.slice ad 0 cap)) w) : wpList P ops Q (o :: rest) a w := by
 refine wpList_want hgd fun K hK' => ?_; have hrun := run_slice_h (P := P) w t ad n cap ht k 0 (by omega) (by omega)
 unfold Oper.wp; simp only [execOp, ho, hx, eH, Option.map_some, Option.map_none, Sem.run_bind, run_sliceAt_slice (P := P) w t _ _ _ _ ht, hrun, run_sizeOf_n hs, Result.andThen, Sem.run_pure, Oper.upon_value, Int.toNat_zero]
 have e1 : sliced ad 0 0 cap sz = .slice ad 0 cap := by
  unfold sliced
  cases ad with
  | none => simp
  | some y => simp [Addr.add]
 rw [e1]; exact hK' _ _ hK
theorem wpList_make_z (hgd : Region.wanted o (yielded ops a.tmps) = true) (l c : Operand) (t : TypeId) (hop : o.op = .makeSlice t l c)
  (e : TypeId) (bytes size : Nat) (z : Value) (ht : P.underlying t = some (.slice e)) (hi : (P.info? e).map (fun i => (i.zero, i.size, i.bytes)) = some (some z, size, bytes))
  (kl kc : IntKind) (n : Nat) (hl : a.eval l = .int kl (n : Int)) (hc : a.eval c = .int kc (n : Int)) (hby : bytes * n <= 281474976710656) (hm : n <= maxLen)
  (hK : wpList P ops Q rest (a.put o.dst (.slice (some ⟨w.heap.size, 0, Option.none⟩) n n)) (w.alloc (.cells (madeCells z.cells (n * size)) e))) : wpList P ops Q (o :: rest) a w := by
 obtain ⟨i, hi1, hi2⟩ := Option.map_eq_some_iff.1 hi; simp only [Prod.mk.injEq] at hi2; obtain ⟨hz, hs, hb⟩ := hi2; refine wpList_want hgd fun K hK' => ?_
 have hb' : (i.bytes : Int) * (n : Int) <= 281474976710656 := by
  have h : ((i.bytes * n : Nat) : Int) <= 281474976710656 := by rw [hb]; omega
  rwa [Int.natCast_mul] at h
 have hr := run_make (P := P) w t e i z ht hi1 hz kl kc n n (by omega) (Int.le_refl _) hb' (by simp [maxLen] at hm; omega)
 simp only [Int.toNat_natCast, hs] at hr; unfold Oper.wp; simp [execOp, hop, hl, hc, hr, Result.andThen]
 exact hK' _ _ hK
end
theorem InP.start (toks : List Tok) (size : Int) (w : World) :
  InP toks size w.heap.size (w.heap.size + 1) 0 [⟨zeroI, zeroIC, .slice none 0 0⟩] [] (.slice none 0 0) (.slice (some ⟨w.heap.size, 0, none⟩) 1 1) w
   ((w.alloc (.cells zeroIC.toArray 54)).alloc (.cells #[.slice (some ⟨w.heap.size, 0, none⟩) 1 1, .int .i64 0, .int .i64 0] 83)) := by
 have hB : Below w.heap.size w ((w.alloc (.cells zeroIC.toArray 54)).alloc (.cells #[.slice (some ⟨w.heap.size, 0, none⟩) 1 1, .int .i64 0, .int .i64 0] 83)) := ((Below.refl _ w).alloc (Nat.le_refl _) _).alloc (by simp) _
 have hc := Cells.new (w.alloc (.cells zeroIC.toArray 54)) #[.slice (some ⟨w.heap.size, 0, none⟩) 1 1, .int .i64 0, .int .i64 0] 83; rw [World.size_alloc] at hc
 have hrow : ((w.alloc (.cells zeroIC.toArray 54)).alloc (.cells #[.slice (some ⟨w.heap.size, 0, none⟩) 1 1, .int .i64 0, .int .i64 0] 83)).ownsRow w.heap.size 54 7 (.slice (some ⟨w.heap.size, 0, none⟩) 1 1) 1 zeroIC := by
  refine World.ownsRow.alloc (w := w.alloc (.cells zeroIC.toArray 54)) ⟨rfl, .inr ⟨w.heap.size, 1, zeroIC.toArray, rfl, Nat.le_refl _, ?_, Nat.le_refl _, by unfold maxLen; omega, rfl, rfl⟩⟩ _
  exact Cells.new w zeroIC.toArray 54
 refine ⟨⟨by simp, fun b e => (by cases e), hrow, ⟨?_, fun b _ e => (by cases e), (fun e => by cases e), fun c hc b e => ?_, by simp⟩, fun c hc => ?_⟩, hc, OwnT.nil, hB, hB.size, RestL.zero size toks, zeroI_small, Nat.le_refl _, fun t ht => by cases ht⟩
 ·simp only [Value.ownBlock, ne_eq, Option.some.injEq]; omega
 ·simp at hc; subst hc; cases e
 ·simp at hc; subst hc
  exact OneAt.fresh (ItmIn.zero _ _) rfl
theorem StC.end {B g : Nat} {rb : Option Nat} {w : World} {v : Value} {C : List Opn} (h : StC B g rb w v C) (hn : ¬ 1 < C.length) (h0 : C ≠ []) :
  ∃ ob oc iv, v = .slice (some ⟨ob, 0, none⟩) 1 oc /\ w.cell? ⟨ob, 6, none⟩ = some iv /\ ItmsAt w iv ((C.map (·.x)).head?.getD zeroI).items := by
 obtain ⟨c, rfl⟩ : ∃ c, C = [c] := by
  match C, hn, h0 with
  | [c], _, _ => exact ⟨c, rfl⟩
  | _ :: _ :: _, hn, _ => simp at hn
 have hc := h.all c (by simp)
 obtain ⟨ob, oc, q, -⟩ := World.ownsRow.form h.row (by simp)
 have q' : v = .slice (some ⟨ob, 0, none⟩) 1 oc := q; subst q'; have hro := h.row; refine ⟨ob, oc, c.iv, rfl, ?_, ?_⟩
 ·have := hro.cellAt 6 (by simp)
  rw [this]
  simpa using hc.cell6
 ·exact ItmAt.items (ItmIn.at _ _ (hc.itm (Q := fun _ => True) (fun _ _ _ => trivial) (fun _ _ => trivial))) hc.cell6
theorem readI_any {toks : List Tok} {size : Int} {B g k : Nat} {C : List Opn} {row : List Tok} {rv v : Value} {w wr : World} (h : InP toks size B g k C row rv v w wr) (stop : Int) (last : Bool) (hT : LexT wr) (hk : k <= 800000) (hB : B <= g) (hsh : ∀ t ∈ toks, t.text.size <= 1048576) (hq : ∀ t ∈ toks, t.kind = 3 -> quoX t.text ≠ none) :
  Calls Tryz.prog 49 #[.pointer (some ⟨g, 0, none⟩), lineV rv stop last] wr (ReadP B g rv.ownBlock (readK (C.map (·.x)) row stop last) wr) := by
 rcases List.eq_nil_or_concat C with rfl | ⟨C0, c, hC⟩
 ·exact absurd rfl h.small.1
 ·rw [List.concat_eq_append] at hC
  subst hC; have hl := h.small.2.1; simp only [List.length_map, List.length_append, List.length_singleton] at hl
  exact read_any B g rv.ownBlock v C0 c row rv stop last wr h.st h.box h.own.toks (fun b e => (World.ownsRow.lt h.own b e).2) hT (by have := h.len; omega) (fun t ht => hsh t (h.mem t ht)) (fun t ht => hq t (h.mem t ht)) (by omega)
   (fun d hd => by have := h.small.2.2 d.x (List.mem_map.2 ⟨d, hd, rfl⟩); omega) h.big hB
theorem wpList_append_tokL {w : World} {ops : Array Oper} {rest : List Oper} {o : Oper} {a : Act} {Q : Exit -> Act -> World -> Prop} (hgd : o.guard = none) (s x : Operand)
  (ho : o.op = .call { callee := .builtin .append, args := #[s, x], argTypes := #[22, 22] })
  (base : Nat) (l : List Tok) (t : Tok) (hown : OwnT base w (a.eval s) l) (g : Nat) (hx : a.eval x = .slice (some ⟨g, 0, none⟩) 1 1)
  (hc : Cells w g #[.int .i64 t.kind, .string t.text, .int .i64 t.pos] 63)
  (hm : l.length <= 1000000) (hbase : base <= w.heap.size) (H : Nat) (hH : w.heap.size = H)
  (hK : ∀ gb cap w', OwnT base w' (.slice (some ⟨gb, 0, none⟩) (l.length + 1) cap) (l ++ [t]) -> w.grownBy w' (a.eval s).ownBlock -> ((a.eval s).ownBlock = some gb \/ gb = H) -> gb < w'.heap.size ->
   wpList Tryz.prog ops Q rest (a.put o.dst (.slice (some ⟨gb, 0, none⟩) (l.length + 1) cap)) w') : wpList Tryz.prog ops Q (o :: rest) a w := by
 obtain ⟨i, hi1, hi2, hi3, hi4⟩ := info_parts Tryz.infoTok; refine wpList_append_lies w hgd s x 22 ho base 63 i _ 3 32 Tryz.underlying22 hi1 hi2 hi3 hi4 rfl (by decide) (a.eval s) l.length (l.flatMap tokC) rfl hown ⟨g, 0, none⟩ 1 1 (tokC t) hx rfl ?_ (tokC_one t) (by omega) (by unfold maxLen; omega) (by omega) hbase H hH ?_
 ·intro j u hu
  rw [Addr.add_lit, Nat.zero_add]; exact hc.cell _ _ (by simpa [tokC] using hu)
 ·intro gb cap w' hown' hg hat hlt
  exact hK gb cap w' (by unfold OwnT; simpa using hown') hg hat hlt
theorem bodyParse_any (s : ByteArray) (w : World) (hT : LexT w) (hs : s.size <= 800000) : Calls Tryz.prog 18 #[.string s] w (BodyP (linesP s.data.toList) w) := by
 have hL := lexParse_any s w hT (by omega)
 obtain ⟨hlen, htxt⟩ := lexP_len s.data.toList
 have hquo : ∀ t ∈ (lexP s.data.toList).1, t.kind = 3 -> quoX t.text ≠ none := by
  have := lexL_quo s.data.toList.length s.data.toList 0 (Nat.le_refl _); unfold lexP; split
  ·exact this
  ·intro t ht
   cases ht
 have hsz : s.data.toList.length = s.size := size_list2 s; rw [hsz] at hlen htxt; have hR : linesP s.data.toList = (if (lexP s.data.toList).2.2 ≠ 0 then ([], (lexP s.data.toList).2) else linesF s.size (lexP s.data.toList).1 [zeroI] []) := by unfold linesP; rw [hsz]
 rw [hR]; generalize lexP s.data.toList = X at *; obtain ⟨toks, at_, er⟩ := X; simp only at hL hlen htxt hquo ⊢; clear hR hsz; obtain ⟨R, hRd⟩ : ∃ R, R = (if er ≠ 0 then (([] : List Itm), at_, er) else linesF s.size toks [zeroI] []) := ⟨_, rfl⟩; rw [<- hRd]; have HRD := Lib.hid hRd; clear hRd; have HT := Lib.hid (And.intro htxt hquo); clear htxt hquo; go_enter Tryz.func18, Tryz.ntmps18; go_wp2_with fail; refine hL.mono ?_; clear hL; rintro _ w1 ⟨tv, rfl, hown, hb1⟩
 by_cases he : er = 0
 ·subst he
  have hT1 := hT.below hb1; have hpos := hT1.utf.pos; have htk := hown.toks; obtain ⟨ta, tc, rfl⟩ := hown.len; have HB1 := Lib.hid (And.intro hb1 hT1); have HOW := Lib.hid htk; have HRL : Hid (R = linesF s.size toks [zeroI] []) := Lib.hid (by rw [HRD.out, if_neg (fun q => q rfl)])
  clear hown htk hb1 hT1 hpos hT; obtain ⟨G, hG⟩ : ∃ G, G = w1.heap.size + 1 := ⟨_, rfl⟩; have HG := Lib.hid hG; go_wp2_with (with_reducible first | refine stop_make ?_)
  refine Stop.out ?_; refine wpList_make_z rfl _ _ _ rfl 54 128 7 _ Tryz.underlying42 Tryz.infoItm _ _ 1 rfl rfl (by omega) (by unfold maxLen; omega) ?_
  rw [show madeCells (Value.agg #[.bool false, .string ⟨#[]⟩, .string ⟨#[]⟩, .string ⟨#[]⟩, .slice none 0 0, .slice none 0 0, .slice none 0 0]).cells (1 * 7) = zeroIC.toArray by kernel_rfl]
  go_wp2_with fail; rw [<- hG]; have hstart := InP.start toks s.size w1; rw [<- hG] at hstart; clear hG; go_loopw [7, 9, 25] (fun rv _ i wr => ∃ (k : Nat) (C : List Opn) (row : List Tok) (v : Value), k <= toks.length /\ i = .int .i64 (k : Int) /\ InP toks s.size w1.heap.size G k C row rv v w1 wr) (fun _ _ i _ => toks.length - (intOf i).toNat)
  case atStart => exact ⟨0, _, [], _, Nat.zero_le _, rfl, hstart⟩
  case round =>
   clear hstart; obtain ⟨k, C, row, v, hk, rfl, hI⟩ := hrel; have hTr := LexT.below HB1.out.2 hI.kept; have hGl : G < wr.heap.size := hI.st.gl; have hw1 : w1.heap.size <= wr.heap.size := hI.big; obtain ⟨ra, rc, rfl⟩ := hI.own.len
   by_cases hkl : k < toks.length
   ·obtain ⟨bb, off, rfl, hlt, q0, q1, q2⟩ := (HOW.out.below hI.kept (Nat.le_refl _)).get hkl
    have hA : Below wr.heap.size wr (wr.alloc (.cells #[.int .i64 toks[k].kind, .string toks[k].text, .int .i64 toks[k].pos] 63)) := (Below.refl _ wr).alloc (Nat.le_refl _) _; have hI1 := hI.below hA; have hNew := Cells.new wr #[.int .i64 toks[k].kind, .string toks[k].text, .int .i64 toks[k].pos] 63; have HS := Lib.hid (fun h6 => hI1.skip hkl h6); have HR := Lib.hid (And.intro (fun stop last => readI_any hI1 stop last (hTr.below hA) (by omega) (by have := HG.out; omega) (fun t ht => Nat.le_trans (HT.out.1 t ht) (by omega)) HT.out.2) (And.intro hI hI1))
    have hbx := hI.box; clear hI hI1 hTr hA; have hKind : ∃ kd tx ps, toks[k].kind = kd /\ toks[k].text = tx /\ toks[k].pos = ps := ⟨_, _, _, rfl, rfl, rfl⟩; obtain ⟨kd, tx, ps, hkd, htx, hps⟩ := hKind; have HK := Lib.hid (And.intro hkd (And.intro htx hps)); rw [hkd, htx, hps] at hNew; rw [hkd] at q0; rw [htx] at q1; rw [hps] at q2; have HQ : Hid (wr.alloc (.cells #[.int .i64 toks[k].kind, .string toks[k].text, .int .i64 toks[k].pos] 63) = wr.alloc (.cells #[.int .i64 kd, .string tx, .int .i64 ps] 63)) := Lib.hid (by rw [hkd, htx, hps])
    clear hkd htx hps
    by_cases h6 : kd = 6 \/ kd = 7
    ·have hS := HS.out (by rw [HK.out.1]; exact h6)
     rw [HQ.out] at hS; have HS6 := Lib.hid hS; have hbxc0 := hbx.cell 0 _ rfl; have hbxf0 := hbx.frozen 0; have hbxc1 := hbx.cell 1 _ rfl; have hbxf1 := hbx.frozen 1; have hbxc2 := hbx.cell 2 _ rfl; have hbxf2 := hbx.frozen 2; clear hS HS HR hbx hNew; rcases h6 with rfl | rfl
     ·have e5 : ((6 : Int) != 5) = true := by decide
      go_wp2_with fail; go_roundw
      case rel => exact ⟨k + 1, C, row, v, hkl, by go_num, HS6.out⟩
      case measure => simp [intOf]; omega
     ·go_wp2_with fail
      go_roundw
      case rel => exact ⟨k + 1, C, row, v, hkl, by go_num, HS6.out⟩
      case measure => simp [intOf]; omega
    ·by_cases h5 : kd = 5
     ·subst h5
      have hrd := HR.out.1 ps false; obtain ⟨RR, hRR⟩ : ∃ RR, RR = readK (C.map (·.x)) row ps false := ⟨_, rfl⟩; rw [<- hRR] at hrd; rw [HQ.out] at hrd; have HRR := Lib.hid hRR; have hbxc0 := hbx.cell 0 _ rfl; have hbxf0 := hbx.frozen 0; have hbxc1 := hbx.cell 1 _ rfl; have hbxf1 := hbx.frozen 1; have hbxc2 := hbx.cell 2 _ rfl; have hbxf2 := hbx.frozen 2; clear hRR hbx h6; have e6 : ((5 : Int) == 6) = false := by decide
      have e7 : ((5 : Int) == 7) = false := by decide
      go_wp2_with fail; refine hrd.mono ?_; clear hrd hNew hbxc0 hbxc1 hbxc2 hbxf0 hbxf1 hbxf2; rintro _ w3 ⟨rfl, v3, ⟨C3, hC3, hS3⟩, hP3, hK3⟩; have hG3 : G < w3.heap.size := hS3.gl; have hcap := HR.out.2.1.own.capB; obtain ⟨-, hcap1, hcap2⟩ := hcap; unfold maxLen at hcap2
      by_cases he5 : RR.2.2 = 0
      ·have hz : RR.2.1 = 0 := by rw [HRR.out] at he5 ⊢; exact readK_zero he5
       rw [he5, hz] at hP3
       have hL : Hid (InP toks s.size w1.heap.size G (k + 1) C3 [] (.slice ra 0 rc) v3 w1 w3) := Lib.hid (by
        have hI1 := HR.out.2.2; have h9 : RR = readK (C.map (·.x)) row toks[k].pos false := by rw [HK.out.2.2]; exact HRR.out
        rw [h9] at he5 hC3; refine hI1.line hkl HK.out.1 he5 hC3 hS3 (e1 := 0) ?_ rfl (by rw [HQ.out]; exact hK3)
        rw [he5]; exact hP3)
       have hP3c0 := hP3.cell 0 _ rfl; have hP3f0 := hP3.frozen 0; have hP3c1 := hP3.cell 1 _ rfl; have hP3f1 := hP3.frozen 1; have hP3c2 := hP3.cell 2 _ rfl; have hP3f2 := hP3.frozen 2; clear hP3 hC3 hS3 hK3 HR HS he5 hz HRR HQ; go_wp2_with (with_reducible first | refine stop_slice ?_)
       refine Stop.out ?_; refine wpList_slice_none rfl _ _ _ 3 rfl Tryz.underlying22 (by kernel_rfl) ra row.length rc rfl _ rfl ?_
       go_wp2_with fail; go_roundw
       case rel => exact ⟨k + 1, C3, [], v3, hkl, by go_num, hL.out⟩
       case measure => simp [intOf]; omega
      ·have hbad : Hid (R = ([], RR.2)) := Lib.hid (by
        have h9 : RR = readK (C.map (·.x)) row toks[k].pos false := by rw [HK.out.2.2]; exact HRR.out
        rw [HRL.out, h9]
        exact HR.out.2.1.rest.bad hkl HK.out.1 (by rw [<- h9]; exact he5))
       have hBw : Hid (Below w.heap.size w w3) := Lib.hid (HB1.out.1.trans ((HR.out.2.1.kept.trans ((Below.refl _ wr).alloc HR.out.2.1.big (.cells #[.int .i64 5, .string tx, .int .i64 ps] 63) |>.trans hK3.1)).mono HB1.out.1.size))
       have ebad : (RR.2.2 != 0) = true := by simpa using he5
       have hR2 : Hid (RR.2 = (RR.2.1, RR.2.2)) := Lib.hid rfl; clear hC3 hS3 hK3 HR HS HRR HQ he5; generalize RR.2.1 = pa at *; generalize RR.2.2 = pe at *; have hP3c0 := hP3.cell 0 _ rfl; have hP3f0 := hP3.frozen 0; have hP3c1 := hP3.cell 1 _ rfl; have hP3f1 := hP3.frozen 1; have hP3c2 := hP3.cell 2 _ rfl; have hP3f2 := hP3.frozen 2; clear hP3; go_wp2_with (with_reducible first | refine stop_slice ?_)
       refine Stop.out ?_; refine wpList_slice_none rfl _ _ _ 3 rfl Tryz.underlying22 (by kernel_rfl) ra row.length rc rfl _ rfl ?_
       go_wp2_with fail; go_quiet (fail)
       go_wp2_with fail; refine bodyPost_ret (v := .tuple #[.slice none 0 0, .int .i64 pa, .int .i64 pe]) (by simp [results, Tryz.results18, go_sem]) rfl ?_
       rw [hbad.out, hR2.out]; exact ⟨⟨_, rfl, ItmsAt.nil⟩, below_drewN hBw.out _⟩
     ·have h56 : toks[k].kind ≠ 5 /\ ¬ (toks[k].kind = 6 \/ toks[k].kind = 7) := by rw [HK.out.1]; exact ⟨h5, h6⟩
      have e5 : (kd == 5) = false := by simpa using h5
      have e6 : (kd == 6) = false := by simp at h6 ⊢; omega
      have e7 : (kd == 7) = false := by simp at h6 ⊢; omega
      have H56 := Lib.hid h56; have hrow : OwnT w1.heap.size (wr.alloc (.cells #[.int .i64 kd, .string tx, .int .i64 ps] 63)) (.slice ra row.length rc) row := by rw [<- HQ.out]; exact HR.out.2.2.own
      have hrl := HR.out.2.1.len; have hbxc0 := hbx.cell 0 _ rfl; have hbxf0 := hbx.frozen 0; have hbxc1 := hbx.cell 1 _ rfl; have hbxf1 := hbx.frozen 1; have hbxc2 := hbx.cell 2 _ rfl; have hbxf2 := hbx.frozen 2; clear hbx h56 h5 h6; go_wp2_with (with_reducible first | refine stop_append ?_)
      refine Stop.out ?_
      refine wpList_append_tokL rfl _ _ rfl w1.heap.size row ⟨kd, tx, ps⟩ (by exact hrow.alloc _) (wr.heap.size + 1) (by first | rfl | simp) (by
       have := Cells.new (wr.alloc (.cells #[.int .i64 kd, .string tx, .int .i64 ps] 63)) #[.int .i64 kd, .string tx, .int .i64 ps] 63; rw [World.size_alloc] at this
       exact this) (by omega) (by simp; omega) (wr.heap.size + 2) (by simp) ?_
      intro g3 cap3 w3 hown3 hg3 hat3 hlt3
      have hI3 : Hid (InP toks s.size w1.heap.size G (k + 1) C (row ++ [toks[k]]) (.slice (some ⟨g3, 0, none⟩) (row.length + 1) cap3) v w1 w3) := Lib.hid (by
       have hI2 := HR.out.2.2; rw [HQ.out] at hI2; have hI2 := hI2.below ((Below.refl _ _).alloc (Nat.le_refl _) (.cells #[.int .i64 kd, .string tx, .int .i64 ps] 63))
       have htk : toks[k] = ⟨kd, tx, ps⟩ := by
        obtain ⟨z1, z2, z3⟩ := HK.out; rw [<- z1, <- z2, <- z3]
       have hown4 : OwnT w1.heap.size w3 (.slice (some ⟨g3, 0, none⟩) (row.length + 1) cap3) (row ++ [toks[k]]) := by rw [htk]; exact hown3
       exact hI2.tok hkl H56.out.1 H56.out.2 hown4 hg3 (hat3.imp id (fun q => by simpa using q)) hlt3)
      have hbx := hI3.out.box; have hG3 : G < w3.heap.size := hI3.out.st.gl; clear hown3 hg3 hat3 hlt3 hrow hNew HR HQ HS q0 q1 q2 hbxc0 hbxc1 hbxc2 hbxf0 hbxf1 hbxf2; have hbxc0 := hbx.cell 0 _ rfl; have hbxf0 := hbx.frozen 0; have hbxc1 := hbx.cell 1 _ rfl; have hbxf1 := hbx.frozen 1; have hbxc2 := hbx.cell 2 _ rfl; have hbxf2 := hbx.frozen 2; clear hbx; go_wp2_with fail; go_roundw
      case rel => exact ⟨k + 1, C, _, v, hkl, by go_num, by simpa using hI3.out⟩
      case measure => simp [intOf]; omega
   ·obtain rfl : k = toks.length := by omega
    have hrd := readI_any hI s.size true hTr (by omega) (by have := HG.out; omega) (fun t ht => Nat.le_trans (HT.out.1 t ht) (by omega)) HT.out.2
    have hlast := hI.rest.last (Nat.le_refl _); have hne := readK_ne hI.small.1 row s.size true; have HI := Lib.hid hI; rw [<- HRL.out] at hlast; have hbx := hI.box; generalize readK (C.map (·.x)) row s.size true = RR at *; have HRR := Lib.hid (And.intro hlast hne); clear hI hTr hlast hne; have hbxc0 := hbx.cell 0 _ rfl; have hbxf0 := hbx.frozen 0; have hbxc1 := hbx.cell 1 _ rfl; have hbxf1 := hbx.frozen 1; have hbxc2 := hbx.cell 2 _ rfl; have hbxf2 := hbx.frozen 2; clear hbx; go_wp2_with fail; refine hrd.mono ?_; clear hrd hbxc0 hbxc1 hbxc2 hbxf0 hbxf1 hbxf2; rintro _ w3 ⟨rfl, v3, ⟨C3, hC3, hS3⟩, hP3, hK3⟩; have hG3 : G < w3.heap.size := hS3.gl; have hBw : Hid (Below w.heap.size w w3) := Lib.hid (HB1.out.1.trans ((HI.out.kept.trans hK3.1).mono HB1.out.1.size)); clear HI hK3
    by_cases he5 : RR.2.2 = 0
    ·have hz3 : C3 ≠ [] := fun e => HRR.out.2 (by rw [hC3, e]; rfl)
     have hrr := HRR.out.1; rw [if_neg (fun q => q he5), hC3] at hrr; rw [he5] at hP3; generalize RR.2.1 = pa at *; clear HRR he5
     by_cases hn : 1 < C3.length
     ·rw [if_pos (by simpa using hn)] at hrr
      have hR9 := Lib.hid hrr; obtain ⟨ob, oc, hv3, -⟩ := World.ownsRow.form hS3.row (by omega)
      subst hv3; have hF := bfail_any G _ _ _ s.size 2 w3 hP3; have hm : (1 : Int) < (C3.length : Int) := by omega
      generalize C3.length = n3 at *; have hP3c0 := hP3.cell 0 _ rfl; have hP3f0 := hP3.frozen 0; have hP3c1 := hP3.cell 1 _ rfl; have hP3f1 := hP3.frozen 1; have hP3c2 := hP3.cell 2 _ rfl; have hP3f2 := hP3.frozen 2; clear hP3 hS3 hC3 hz3 hn hrr; go_wp2_with fail; refine hF.mono ?_; clear hF hP3c0 hP3c1 hP3c2 hP3f0 hP3f1 hP3f2; rintro _ w4 ⟨rfl, hP4, hw4⟩
      have hBw4 : Hid (Below w.heap.size w w4) := Lib.hid (by
       rw [hw4]; have h1 := HG.out; have h2 := HB1.out.1.size
       exact (hBw.out.setCell (p := ⟨G, 1, none⟩) (by show w.heap.size <= G; omega) _).setCell (p := ⟨G, 2, none⟩) (by show w.heap.size <= G; omega) _)
      have hG4 : G < w4.heap.size := hP4.lt; have hP4c0 := hP4.cell 0 _ rfl; have hP4f0 := hP4.frozen 0; have hP4c1 := hP4.cell 1 _ rfl; have hP4f1 := hP4.frozen 1; have hP4c2 := hP4.cell 2 _ rfl; have hP4f2 := hP4.frozen 2; clear hP4 hw4; have e2 : ((2 : Int) != 0) = true := by decide
      go_wp2_with fail; go_quiet (fail)
      go_wp2_with fail; refine bodyPost_ret (v := .tuple #[.slice none 0 0, .int .i64 s.size, .int .i64 2]) (by simp [results, Tryz.results18, go_sem]) rfl ?_
      rw [hR9.out]; exact ⟨⟨_, rfl, ItmsAt.nil⟩, below_drewN hBw4.out _⟩
     ·rw [if_neg (by simpa using hn)] at hrr
      obtain ⟨ob, oc, iv, rfl, hcell, hits⟩ := hS3.end hn hz3; have hR9 := Lib.hid (And.intro hrr hits); obtain ⟨ia, ic, rfl, -⟩ := hits.len; generalize ((C3.map (·.x)).head?.getD zeroI).items = its at *; have hP3c0 := hP3.cell 0 _ rfl; have hP3f0 := hP3.frozen 0; have hP3c1 := hP3.cell 1 _ rfl; have hP3f1 := hP3.frozen 1; have hP3c2 := hP3.cell 2 _ rfl; have hP3f2 := hP3.frozen 2; clear hP3 hS3 hC3 hz3 hn hrr hits; go_wp2_with fail; refine bodyPost_ret (v := .tuple #[.slice ia its.length ic, .int .i64 (-1), .int .i64 0]) (by simp [results, Tryz.results18, go_sem]) rfl ?_
      rw [hR9.out.1]; exact ⟨⟨_, rfl, hR9.out.2⟩, hBw.out⟩
    ·have hbad : Hid (R = ([], RR.2.1, RR.2.2)) := Lib.hid (by rw [HRR.out.1, if_pos he5])
     have ebad : (RR.2.2 != 0) = true := by simpa using he5
     have ebad2 : (RR.2.2 == 0) = false := by simpa using he5
     clear hC3 hS3 HRR he5; generalize RR.2.1 = pa at *; generalize RR.2.2 = pe at *; have hP3c0 := hP3.cell 0 _ rfl; have hP3f0 := hP3.frozen 0; have hP3c1 := hP3.cell 1 _ rfl; have hP3f1 := hP3.frozen 1; have hP3c2 := hP3.cell 2 _ rfl; have hP3f2 := hP3.frozen 2; clear hP3; go_wp2_with fail; go_quiet (fail)
     go_wp2_with fail; refine bodyPost_ret (v := .tuple #[.slice none 0 0, .int .i64 pa, .int .i64 pe]) (by simp [results, Tryz.results18, go_sem]) rfl ?_
     rw [hbad.out]; exact ⟨⟨_, rfl, ItmsAt.nil⟩, below_drewN hBw.out _⟩
 ·have e0 : (er != 0) = true := by simpa using he
  go_wp2_with fail; refine bodyPost_end (v := .tuple #[.slice none 0 0, .int .i64 at_, .int .i64 er]) (by simp [results, Tryz.results18, go_sem]) rfl ?_
  rw [HRD.out, if_pos he]; exact ⟨⟨_, rfl, ItmsAt.nil⟩, hb1⟩
end Go.Proofs.YtbcdaaobbebooaaGreatDoor
namespace Go.Proofs.YtbcdaaobbebooaaGreatDoor
set_option maxRecDepth 100000
set_option maxHeartbeats 20000000
theorem lexL_pos : ∀ (k : Nat) (l : Bs) (p : Nat), l.length <= k -> (∀ t ∈ (lexL l p).1, 0 <= t.pos /\ t.pos <= (p + l.length : Nat)) /\ -1 <= (lexL l p).2.1 /\ (lexL l p).2.1 <= (p + l.length : Nat)
 | 0, l, p, h => by
  obtain rfl := List.eq_nil_of_length_eq_zero (Nat.le_zero.1 h); rw [lexL_nil]; exact ⟨fun t ht => (by cases ht), by simp, by simp only; omega⟩
 | k + 1, [], p, _ => by
  rw [lexL_nil]; exact ⟨fun t ht => (by cases ht), by simp, by simp only; omega⟩
 | k + 1, c :: r, p, h => by
  simp only [List.length_cons] at h ⊢
  by_cases hb : blankB c = true
  ·rw [lexL_blank hb]
   obtain ⟨h1, h2, h3⟩ := lexL_pos k r (p + 1) (by omega)
   exact ⟨fun t ht => by have := h1 t ht; omega, h2, by omega⟩
  ·have hb : blankB c = false := by simpa using hb
   cases ho : one1 (c :: r) with
   | bad off e =>
    rw [lexL_bad hb ho]; have := one1_off ho; simp only [List.length_cons] at this; exact ⟨fun t ht => (by cases ht), by simp only; omega, by simp only; omega⟩
   | tok kd sz =>
    have hs := one1_size ho; rw [lexL_tok hb ho]; simp only [List.length_cons] at hs; obtain ⟨h1, h2, h3⟩ := lexL_pos k ((c :: r).drop sz) (p + sz) (by rw [List.length_drop, List.length_cons]; omega)
    rw [List.length_drop, List.length_cons] at h1 h3; refine ⟨fun t ht => ?_, h2, by simp only at h3 ⊢; omega⟩
    rcases List.mem_cons.1 ht with rfl | ht
    ·simp only; omega
    ·have := h1 t ht; omega
end Go.Proofs.YtbcdaaobbebooaaGreatDoor
namespace Go.Proofs.YtbcdaaobbebooaaGreatDoor
set_option maxRecDepth 100000
set_option maxHeartbeats 20000000
open Go.RowKit Go.Tab
def RowsD (B : Nat) (w : World) (v : Value) (L : List RowD) : Prop :=
 ∃ D : List (SlT × RowD), D.map (·.2) = L /\ w.ownsRow B 110 4 v D.length (D.flatMap rowC) /\ ∀ d ∈ D, OwnT B w (slT d.1) d.2.toks
theorem own_base {B B2 n sz : Nat} {E : TypeId} {w : World} {v : Value} {xs : List Value} (h : w.ownsRow B E sz v n xs) (hb : B2 <= B) : w.ownsRow B2 E sz v n xs := by
 obtain ⟨h1, h2⟩ := h; refine ⟨h1, ?_⟩; rcases h2 with h2 | ⟨g, cap, cur, hv, hg, r⟩
 ·exact .inl h2
 ·exact .inr ⟨g, cap, cur, hv, by omega, r⟩
theorem RowsD.nil (B : Nat) (w : World) : RowsD B w (.slice none 0 0) [] := ⟨[], rfl, World.ownsRow_nil _ _ _ _, fun d hd => by cases hd⟩
theorem RowsD.base {B B2 : Nat} {w : World} {v : Value} {L : List RowD} (h : RowsD B w v L) (hb : B2 <= B) : RowsD B2 w v L := by
 obtain ⟨D, h1, h2, h3⟩ := h; exact ⟨D, h1, own_base h2 hb, fun d hd => (h3 d hd).base_le hb⟩
theorem RwS.rows {B gr go gl : Nat} {w : World} {lv : Value} {D : List (SlT × RowD)} {cur : SlT} {toks : List Tok} {fr hi dp o : Int} (h : RwS B gr go gl w lv D cur toks fr hi dp o) : RowsD B w lv (D.map (·.2)) := ⟨D, rfl, h.own, fun d hd => (h.fin d hd).1⟩
theorem RwS.start (w1 : World) : RwS w1.heap.size (w1.heap.size + 1) (w1.heap.size + 2) w1.heap.size
  (((w1.alloc (.cells #[.slice none 0 0] 95)).alloc (.cells #[.slice none 0 0, .int .i64 0, .int .i64 0, .int .i64 0] 110)).alloc (.cells #[.int .i64 0] 3)) (.slice none 0 0) [] (none, 0, 0) [] 0 0 0 0 := by
 have c1 := ((Cells.new w1 #[.slice none 0 0] 95).alloc (.cells #[.slice none 0 0, .int .i64 0, .int .i64 0, .int .i64 0] 110)).alloc (.cells #[.int .i64 0] 3); have c2 := (Cells.new (w1.alloc (.cells #[.slice none 0 0] 95)) #[.slice none 0 0, .int .i64 0, .int .i64 0, .int .i64 0] 110).alloc (.cells #[.int .i64 0] 3); have c3 := Cells.new ((w1.alloc (.cells #[.slice none 0 0] 95)).alloc (.cells #[.slice none 0 0, .int .i64 0, .int .i64 0, .int .i64 0] 110)) #[.int .i64 0] 3; simp only [World.size_alloc] at c2 c3; exact ⟨c2, c3, c1, World.ownsRow_nil _ _ _ _, (by simp [Value.ownBlock]), OwnT.nil, (fun d hd => by cases hd), by omega⟩
theorem lexP_pos (l : Bs) : ∀ t ∈ (lexP l).1, 0 <= t.pos /\ t.pos <= (l.length : Nat) := by
 have := (lexL_pos l.length l 0 (Nat.le_refl _)).1; rw [Nat.zero_add] at this; unfold lexP; split
 ·exact this
 ·intro t ht; cases ht
theorem depR_abs (o : Int) (l : List Tok) (m : Nat) (h : -(m : Int) <= o /\ o <= m) : -((m + 1 : Nat) : Int) <= nxtO o l /\ nxtO o l <= ((m + 1 : Nat) : Int) := by
 unfold nxtO depR; split <;> split <;> omega
theorem rowsF_skip {size : Int} {l : List Tok} {k : Nat} (hk : k < l.length) (h : l[k].kind ≠ 5) (cur : List Tok) (fr o : Int) : rowsF size (l.drop k) cur fr o = rowsF size (l.drop (k + 1)) (cur ++ [l[k]]) fr o := by
 rw [List.drop_eq_getElem_cons hk, rowsF, if_neg h]
theorem rowsF_end {size : Int} {l : List Tok} {k : Nat} (hk : k < l.length) (h : l[k].kind = 5) (cur : List Tok) (fr o : Int) : rowsF size (l.drop k) cur fr o = endR o cur fr l[k].pos :: rowsF size (l.drop (k + 1)) [] (l[k].pos + 1) (nxtO o cur) := by
 rw [List.drop_eq_getElem_cons hk, rowsF, if_pos h]
structure RwI (w1 : World) (size : Int) (R : List RowD) (toks : List Tok) (k : Nat) (w : World) (lv : Value) (D : List (SlT × RowD)) (cur : SlT) (ct : List Tok) (fr hi dp o : Int) : Prop where
 s : RwS w1.heap.size (w1.heap.size + 1) (w1.heap.size + 2) w1.heap.size w lv D cur ct fr hi dp o
 b : Below w1.heap.size w1 w
 r : R = D.map (·.2) ++ rowsF size (toks.drop k) ct fr o
 n : D.length + ct.length <= k
 o : -(D.length : Int) <= o /\ o <= D.length
 f : 0 <= fr /\ fr <= size + 1
theorem lkrows_any (s : ByteArray) (w : World) (hT : LexT w) (hs : s.size <= 800000) : Calls Tryz.prog 61 #[.string s] w fun e w' => ∃ v, e = .returned v /\ RowsD w.heap.size w' v (rowsP s.data.toList) /\ Below w.heap.size w w' := by
 have hL := lexParse_any s w hT (by omega)
 have hsz : s.data.toList.length = s.size := size_list2 s; have hpos := lexP_pos s.data.toList; have hlen := (lexP_len s.data.toList).1; obtain ⟨R, hR⟩ : ∃ R, R = rowsP s.data.toList := ⟨_, rfl⟩; rw [<- hR]; unfold rowsP at hR; rw [hsz] at hpos hlen hR; generalize lexP s.data.toList = X at *; obtain ⟨toks, at_, er⟩ := X; simp only at hL hlen hpos hR; have HR := Lib.hid hR; have HP := Lib.hid hpos; clear hR hpos hsz; go_enter Tryz.func61, Tryz.ntmps61; go_wp2_with fail; refine hL.mono ?_; clear hL; rintro _ w1 ⟨tv, rfl, hown, hb1⟩
 by_cases he : er = 0
 ·subst he
  have HRR : Hid (R = rowsF s.size toks [] 0 0) := Lib.hid (by rw [HR.out, if_pos rfl])
  have htk := hown.toks; obtain ⟨ta, tc, rfl⟩ := hown.len; have HB1 := Lib.hid hb1; have HOW := Lib.hid htk; have hst := RwS.start w1; have HST := Lib.hid hst; clear hown htk hb1 hT HR hst; obtain ⟨G, hG⟩ : ∃ G, G = w1.heap.size := ⟨_, rfl⟩; go_wp2_with fail; go_loopw [24] (fun i wr => ∃ (k : Nat) (lv : Value) (D : List (SlT × RowD)) (cur : SlT) (ct : List Tok) (fr hi dp o : Int), k <= toks.length /\ i = .int .i64 (k : Int) /\ RwI w1 s.size R toks k wr lv D cur ct fr hi dp o) (fun i _ => toks.length - (intOf i).toNat)
  case atStart => exact ⟨0, _, _, _, [], 0, 0, 0, 0, Nat.zero_le _, rfl, HST.out, by (repeat' first | with_reducible refine Below.setCell ?_ ?_ _ | with_reducible refine Below.alloc ?_ ?_ _ | with_reducible refine Below.drew ?_ | with_reducible refine below_drewN ?_ _ | with_reducible assumption | with_reducible exact Below.refl _ _ | (simp only [World.size_alloc, World.size_setCell, World.size_drew]; first | done | omega) | omega), by rw [HRR.out, List.drop_zero]; rfl, Nat.le_refl _, by simp, by omega⟩
  case round =>
   clear HST; obtain ⟨k, lv, D, cur, ct, fr, hi, dp, o, hk, rfl, hI⟩ := hrel; have hw1 := hI.b.size
   by_cases hkl : k < toks.length
   ·obtain ⟨b, off, rfl, hlt, hq⟩ := tok_far (HOW.out.below hI.b (Nat.le_refl _)) hkl
    obtain ⟨q0, q1, q2⟩ := hq wr (Below.refl _ _); have hps := HP.out toks[k] (List.getElem_mem hkl); have HE := Lib.hid (fun h => rowsF_end (size := s.size) hkl h ct fr o); have HS := Lib.hid (fun h => rowsF_skip (size := s.size) hkl h ct fr o); have hXb := tokB_below wr toks[k]; generalize toks[k] = t at *; have h1 := hI.s.below hXb; have hA1 := hI.b.trans (hXb.mono hw1); obtain ⟨kd, tx, ps⟩ := t; simp only at q0 q1 q2 hps HE HS; have HI := Lib.hid (And.intro hI (And.intro h1 hA1)); have hr := hI.s.r; have ho := hI.s.o; have hl := hI.s.l; have lr := hr.lt; have lo := ho.lt; have ll := hl.lt; have hrc0 := hr.cell 0 _ rfl; have hrf0 := hr.frozen 0; have hrc1 := hr.cell 1 _ rfl; have hrf1 := hr.frozen 1; have hrc2 := hr.cell 2 _ rfl; have hrf2 := hr.frozen 2; have hrc3 := hr.cell 3 _ rfl; have hrf3 := hr.frozen 3; have hoc0 := ho.cell 0 _ rfl; have hof0 := ho.frozen 0; have hlc0 := hl.cell 0 _ rfl; have hlf0 := hl.frozen 0; clear hr ho hl; clear hq hXb hI h1 hA1
    by_cases h5 : kd = 5
    ·subst h5
     have hcl := rowsEnd_any HI.out.2.1 ps (by omega) (by have := HI.out.1.o; have := HI.out.1.n; omega) (by have := HI.out.1.n; omega) (by have := HI.out.1.n; omega)
     go_wp2_with fail; refine hcl.mono ?_; rintro _ w3 ⟨rfl, ⟨lv3, h3⟩, hb3⟩
     have HN : Hid (RwI w1 s.size R toks (k + 1) w3 lv3 (D ++ [(cur, endR o ct fr ps)]) (none, 0, 0) [] (ps + 1) 0 0 (nxtO o ct)) := Lib.hid (by
      refine ⟨h3, HI.out.2.2.trans hb3, ?_, ?_, ?_, by omega⟩
      ·rw [HI.out.1.r, HE.out (by trivial)]; simp
      ·have := HI.out.1.n; simp; omega
      ·have := depR_abs o ct D.length HI.out.1.o
       simpa using this)
     clear hcl h3 hb3 hrc0 hrc1 hrc2 hrc3 hrf0 hrf1 hrf2 hrf3 hoc0 hof0 hlc0 hlf0 lr lo ll q0 q1 q2; go_wp2_with fail; go_roundw
     case rel => exact ⟨k + 1, _, _, _, _, _, _, _, _, hkl, by go_num, HN.out⟩
     case measure => simp [intOf]; omega
    ·have e5 : (kd == 5) = false := by simpa using h5
     obtain ⟨ca, cn, cc⟩ := cur; obtain ⟨a', c', e'⟩ := HI.out.1.s.tk.len; simp only [slT, Value.slice.injEq] at e'; obtain ⟨rfl, rfl, rfl⟩ := e'; have H2 := Lib.hid (HI.out.2.1.below (tokB_below _ ⟨kd, tx, ps⟩)); have hrow := H2.out.tk; have hcl := HI.out.1.n; simp only [slT] at hrc0 hrow; have HS5 := Lib.hid (HS.out h5); clear h5 HS HE; go_wp2_with (with_reducible first | refine stop_append ?_)
     refine Stop.out ?_
     refine wpList_append_tokL rfl _ _ rfl w1.heap.size ct ⟨kd, tx, ps⟩ (by exact hrow) (wr.heap.size + 1) (by first | rfl | simp) (by
      have := Cells.new (wr.alloc (.cells #[.int .i64 kd, .string tx, .int .i64 ps] 63)) #[.int .i64 kd, .string tx, .int .i64 ps] 63; rw [World.size_alloc] at this
      exact this) (by omega) (by simp; omega) (wr.heap.size + 2) (by simp) ?_
     intro g3 cap3 w3 hown3 hg3 hat3 hlt3; have hN := H2.out.tok hg3 hown3 (hat3.imp id (fun q => by simp; omega))
     have HN : Hid (RwI w1 s.size R toks (k + 1) (w3.setCell ⟨w1.heap.size + 1, 0, none⟩ (.slice (some ⟨g3, 0, none⟩) (ct.length + 1) cap3)) lv D (some ⟨g3, 0, none⟩, ct.length + 1, cap3) (ct ++ [⟨kd, tx, ps⟩]) fr hi dp o) := Lib.hid (by
      refine ⟨hN, ?_, ?_, ?_, HI.out.1.o, HI.out.1.f⟩
      ·have hA := (HI.out.2.2.alloc (by simp; omega) (tokB ⟨kd, tx, ps⟩)).grown hg3 (by simp; omega) (fun j e => (World.ownsRow.lt hrow j e).1)
       exact hA.setCell (by show w1.heap.size <= w1.heap.size + 1; omega) _
      ·rw [HI.out.1.r, HS5.out]
      ·simp; omega)
     have hr := H2.out.r.kept hg3 (fun e => (H2.out.cur_fresh _ e.symm).2.1 rfl); clear hrow hg3 hown3 hat3 hN hrc0 hrc1 hrc2 hrc3 hrf0 hrf1 hrf2 hrf3 hoc0 hof0 hlc0 hlf0 lr lo ll q0 q1 q2; have lr := hr.lt; have hrc0 := hr.cell 0 _ rfl; have hrf0 := hr.frozen 0; have hrc1 := hr.cell 1 _ rfl; have hrf1 := hr.frozen 1; have hrc2 := hr.cell 2 _ rfl; have hrf2 := hr.frozen 2; have hrc3 := hr.cell 3 _ rfl; have hrf3 := hr.frozen 3; clear hr; go_wp2_with fail; go_roundw
     case rel => exact ⟨k + 1, _, _, _, _, _, _, _, _, hkl, by go_num, HN.out⟩
     case measure => simp [intOf]; omega
   ·obtain rfl : k = toks.length := by omega
    have hRr := hI.r; rw [List.drop_length, rowsF] at hRr; have HI := Lib.hid hI; have hff := hI.f; have HRr := Lib.hid hRr; have hr := hI.s.r; have ho := hI.s.o; have hl := hI.s.l; have lr := hr.lt; have lo := ho.lt; have ll := hl.lt; have hrc0 := hr.cell 0 _ rfl; have hrf0 := hr.frozen 0; have hrc1 := hr.cell 1 _ rfl; have hrf1 := hr.frozen 1; have hrc2 := hr.cell 2 _ rfl; have hrf2 := hr.frozen 2; have hrc3 := hr.cell 3 _ rfl; have hrf3 := hr.frozen 3; have hoc0 := ho.cell 0 _ rfl; have hof0 := ho.frozen 0; have hlc0 := hl.cell 0 _ rfl; have hlf0 := hl.frozen 0; clear hr ho hl; clear hI hRr
    by_cases hlt : fr < (s.size : Int)
    ·have hcl := rowsEnd_any HI.out.s s.size (by omega) (by have := HI.out.o; have := HI.out.n; omega) (by have := HI.out.n; omega) (by have := HI.out.n; omega)
     have HR2 := HRr; rw [if_pos hlt] at HR2; go_wp2_with fail; refine hcl.mono ?_; rintro _ w3 ⟨rfl, ⟨lv3, h3⟩, hb3⟩; have HN := Lib.hid (And.intro h3 (HI.out.b.trans hb3)); clear hcl hb3 hrc0 hrc1 hrc2 hrc3 hrf0 hrf1 hrf2 hrf3 hoc0 hof0 hlc0 hlf0 lr lo ll; have hl := h3.l; have ll := hl.lt; have hlc0 := hl.cell 0 _ rfl; have hlf0 := hl.frozen 0; clear h3 hl; go_wp2_with fail; go_ret; refine ⟨_, rfl, ?_, HB1.out.trans (HN.out.2.mono HB1.out.size)⟩; have := HN.out.1.rows.base (B2 := w.heap.size) (by have := HB1.out.size; omega)
     rw [HR2.out]
     simpa using this
    ·have HR2 := HRr
     rw [if_neg hlt] at HR2; go_wp2_with fail; go_ret; refine ⟨_, rfl, ?_, HB1.out.trans (HI.out.b.mono HB1.out.size)⟩; have := HI.out.s.rows.base (B2 := w.heap.size) (by have := HB1.out.size; omega)
     rw [HR2.out]
     simpa using this
 ·have hne : (er != 0) = true := by simpa using he
  have HB1 := Lib.hid hb1; have HR0 : Hid (R = []) := Lib.hid (by rw [HR.out, if_neg he])
  clear hown hb1 he HR; go_wp2_with fail; go_ret; rw [HR0.out]; exact ⟨_, rfl, RowsD.nil _ _, HB1.out⟩
theorem flat_row : ∀ (D : List (SlT × RowD)) (j : Nat) (h : j < D.length), (D.flatMap rowC)[j * 4]? = some (slT D[j].1) /\ (D.flatMap rowC)[j * 4 + 1]? = some (.int .i64 D[j].2.lo) /\ (D.flatMap rowC)[j * 4 + 2]? = some (.int .i64 D[j].2.hi) /\ (D.flatMap rowC)[j * 4 + 3]? = some (.int .i64 D[j].2.dep)
 | p :: l, 0, _ => by simp [rowC]
 | p :: l, j + 1, h => by
  have ih := flat_row l j (by simpa using h)
  have e1 : (j + 1) * 4 = j * 4 + 4 := by omega
  rw [e1]
  simpa [rowC] using ih
def RowsAt (B : Nat) (w : World) (v : Value) (L : List RowD) : Prop :=
 ∃ a cap, v = .slice a L.length cap /\ L.length <= cap /\ cap <= maxLen /\ (a = none -> cap = 0) /\
  ∀ x, a = some x -> L ≠ [] -> x.spot = none /\ x.block < w.heap.size /\ ∀ j (h : j < L.length), ∃ s : SlT, OwnT B w (slT s) L[j].toks /\ w.cell? ⟨x.block, x.off + j * 4, none⟩ = some (slT s) /\
   w.cell? ⟨x.block, x.off + j * 4 + 1, none⟩ = some (.int .i64 L[j].lo) /\ w.cell? ⟨x.block, x.off + j * 4 + 2, none⟩ = some (.int .i64 L[j].hi) /\ w.cell? ⟨x.block, x.off + j * 4 + 3, none⟩ = some (.int .i64 L[j].dep)
theorem RowsAt.nil {B : Nat} {w : World} : RowsAt B w (.slice none 0 0) [] := ⟨none, 0, rfl, Nat.le_refl _, Nat.zero_le _, fun _ => rfl, fun x hx => by cases hx⟩
theorem RowsD.at {B : Nat} {w : World} {v : Value} {L : List RowD} (h : RowsD B w v L) : RowsAt B w v L := by
 obtain ⟨D, rfl, hown, hD⟩ := h; have hlt := World.ownsRow.lt hown; obtain ⟨h1, h2⟩ := hown; rcases h2 with ⟨rfl, h3⟩ | ⟨g, cap, cur, rfl, hb, hg, h3, h4, h5, h6⟩
 ·have : D = [] := List.eq_nil_of_length_eq_zero h3
  subst this; exact RowsAt.nil
 ·refine ⟨_, cap, by rw [List.length_map], by rw [List.length_map]; exact h3, h4, (fun h => by cases h), fun x hx _ => ?_⟩
  cases hx
  refine ⟨rfl, (hlt g rfl).2, fun j hj => ?_⟩; rw [List.length_map] at hj; obtain ⟨f1, f2, f3, f4⟩ := flat_row D j hj; rw [<- h6, List.getElem?_take, if_pos (by omega)] at f1 f2 f3 f4
  rw [List.getElem_map]; refine ⟨D[j].1, hD D[j] (List.getElem_mem hj), ?_, ?_, ?_, ?_⟩
  all_goals rw [cell_of_row w g _ cur 110 (0, 0) hg]
  ·simpa using f1
  ·simpa using f2
  ·simpa using f3
  ·simpa using f4
theorem RowsAt.len {B : Nat} {w : World} {v : Value} {L : List RowD} (h : RowsAt B w v L) : ∃ a cap, v = .slice a L.length cap /\ L.length <= cap /\ cap <= maxLen /\ (a = none -> cap = 0) := by
 obtain ⟨a, cap, h1, h2, h3, h4, -⟩ := h; exact ⟨a, cap, h1, h2, h3, h4⟩
theorem RowsAt.get {B : Nat} {w : World} {a : Option Addr} {n cap : Nat} {L : List RowD} (h : RowsAt B w (.slice a n cap) L) {j : Nat} (hj : j < L.length) :
  ∃ b off, ∃ s : SlT, a = some ⟨b, off, none⟩ /\ b < w.heap.size /\ OwnT B w (slT s) L[j].toks /\ w.cell? ⟨b, off + j * 4, none⟩ = some (slT s) /\
   w.cell? ⟨b, off + j * 4 + 1, none⟩ = some (.int .i64 L[j].lo) /\ w.cell? ⟨b, off + j * 4 + 2, none⟩ = some (.int .i64 L[j].hi) /\ w.cell? ⟨b, off + j * 4 + 3, none⟩ = some (.int .i64 L[j].dep) := by
 obtain ⟨a', cap', he, h1, h2, h3, h4⟩ := h; cases he
 cases a with
 | none => have := h3 rfl; omega
 | some x =>
  obtain ⟨b, off, sp⟩ := x; obtain ⟨rfl, g2, g3⟩ := h4 _ rfl (by intro h0; subst h0; simp at hj)
  obtain ⟨s, q⟩ := g3 j hj; exact ⟨b, off, s, rfl, g2, q⟩
theorem oneT : ∀ x : SlT, (slT x).oneCell' = true := fun _ => rfl
theorem Tryz.infoSlT : (Tryz.prog.info? 22).map (fun i => (i.zero, i.size, i.bytes)) = some (some (.slice none 0 0), 1, 24) := by kernel_rfl
def TkAt (B : Nat) (w : World) (v : Value) (L : List (List Tok)) : Prop :=
 ∃ ss : List SlT, RowOf slT w v ss /\ ss.length = L.length /\ ∀ j (h1 : j < ss.length) (h2 : j < L.length), OwnT B w (slT ss[j]) L[j]
theorem TkAt.below {B : Nat} {w w' : World} {v : Value} {L : List (List Tok)} (h : TkAt B w v L) (hb : Below w.heap.size w w') : TkAt B w' v L := by
 obtain ⟨ss, h1, h2, h3⟩ := h; exact ⟨ss, h1.below hb (Nat.le_refl _), h2, fun j q1 q2 => (h3 j q1 q2).below hb (Nat.le_refl _)⟩
theorem TkAt.len {B : Nat} {w : World} {v : Value} {L : List (List Tok)} (h : TkAt B w v L) : ∃ a cap, v = .slice a L.length cap /\ L.length <= cap /\ cap <= maxLen /\ (a = none -> cap = 0) := by
 obtain ⟨ss, h1, h2, -⟩ := h; rw [<- h2]; exact h1.len
theorem TkAt.get {B : Nat} {w : World} {a : Option Addr} {n cap : Nat} {L : List (List Tok)} (h : TkAt B w (.slice a n cap) L) {j : Nat} (hj : j < L.length) :
  ∃ b off, ∃ s : SlT, a = some ⟨b, off, none⟩ /\ b < w.heap.size /\ OwnT B w (slT s) L[j] /\ w.cell? ⟨b, off + j, none⟩ = some (slT s) := by
 obtain ⟨ss, h1, h2, h3⟩ := h; obtain ⟨b, off, rfl, hlt, hc⟩ := h1.at (j := j) (by omega)
 exact ⟨b, off, ss[j]'(by omega), rfl, hlt, h3 j (by omega) hj, hc j (by omega)⟩
theorem one_row (w : World) (s : SlT) (E : TypeId) : RowOf slT (w.alloc (.cells #[slT s] E)) (.slice (some ⟨w.heap.size, 0, none⟩) 1 1) [s] := by
 refine ⟨_, 1, rfl, Nat.le_refl _, by decide, (fun h => by cases h), fun x hx _ => ?_⟩
 cases hx
 refine ⟨rfl, by simp, fun j hj => ?_⟩
 obtain rfl : j = 0 := by simpa using hj
 rw [World.cell?_alloc_new]; rfl
theorem lkRows_any (s : ByteArray) (w : World) (hT : LexT w) (hs : s.size <= 800000) (hn : (rowsP s.data.toList).length <= 1000000) : Calls Tryz.prog 42 #[.string s] w fun e w' => ∃ v, e = .returned v /\ TkAt w.heap.size w' v ((rowsP s.data.toList).map (·.toks)) /\ Below w.heap.size w w' := by
 have hR := lkrows_any s w hT hs; generalize rowsP s.data.toList = L at *; go_enter Tryz.func42, Tryz.ntmps42; go_wp2_with fail; refine hR.mono ?_; clear hR; rintro _ w1 ⟨rv, rfl, hD, hb1⟩; have hA := hD.at; obtain ⟨ra, rc, rfl, hc1, hc2, -⟩ := hA.len; unfold maxLen at hc2; have HA := Lib.hid hA; have HB1 := Lib.hid hb1; clear hA hD hb1; go_wp2_with fail; go_loopw [3, 9] (fun lv i wr => ∃ (k : Nat) (ss : List SlT), k <= L.length /\ i = .int .i64 (k : Int) /\ OwnOf slT 22 w1.heap.size wr lv ss /\ ss.length = k /\ (∀ j (h1 : j < ss.length) (h2 : j < L.length), OwnT w.heap.size w1 (slT ss[j]) L[j].toks) /\ Below w1.heap.size w1 wr) (fun _ i _ => L.length - (intOf i).toNat)
 case atStart => exact ⟨0, [], Nat.zero_le _, rfl, OwnOf.nil, rfl, (fun j h => by cases h), Below.refl _ _⟩
 case round =>
  obtain ⟨k, ss, hk, rfl, hown, hsl, hss, hb⟩ := hrel; have hw1 := hb.size
  by_cases hkl : k < L.length
  ·obtain ⟨b, off, s0, rfl, hlt, ht, q0, q1, q2, q3⟩ := HA.out.get hkl
   obtain ⟨sa, sn, sc⟩ := s0; have hlt2 : b < wr.heap.size := by omega
   have r0 := (hb.cell (p := ⟨b, off + k * 4, none⟩) hlt).trans q0; have r1 := (hb.cell (p := ⟨b, off + k * 4 + 1, none⟩) hlt).trans q1; have r2 := (hb.cell (p := ⟨b, off + k * 4 + 2, none⟩) hlt).trans q2; have r3 := (hb.cell (p := ⟨b, off + k * 4 + 3, none⟩) hlt).trans q3; simp only [slT] at r0
   have HS : Hid (∀ j (h1 : j < (ss ++ [(sa, sn, sc)]).length) (h2 : j < L.length), OwnT w.heap.size w1 (slT (ss ++ [(sa, sn, sc)])[j]) L[j].toks) := Lib.hid (fun j h1 h2 => by
    by_cases hj : j < ss.length
    ·rw [List.getElem_append_left hj]; exact hss j hj h2
    ·have : j = k := by simp at h1; omega
     subst this; rw [List.getElem_append_right (by omega)]
     simpa [hsl] using ht)
   generalize L[k].lo = lo at *; generalize L[k].hi = hi at *; generalize L[k].dep = dep at *; have HB := Lib.hid hb; have HO := Lib.hid hown; have HSL := Lib.hid hsl; obtain ⟨oa, oc, rfl, -⟩ := hown.row.len; clear q0 q1 q2 q3 ht hss hown hb hsl; go_wp2_with (with_reducible first | refine stop_append ?_)
   refine Stop.out ?_; have hBx := HB.out.alloc HB.out.size (.cells #[.slice sa sn sc, .int .i64 lo, .int .i64 hi, .int .i64 dep] 110); have hsl2 := HSL.out
   refine wpList_append_row (f := slT) rfl _ _ 73 rfl w1.heap.size 22 24 (.slice none 0 0) Tryz.underlying73 Tryz.infoSlT rfl oneT ss [(sa, sn, sc)] (by exact (HO.out.alloc _).alloc _) (by
     have q := one_row (wr.alloc (.cells #[.slice sa sn sc, .int .i64 lo, .int .i64 hi, .int .i64 dep] 110)) (sa, sn, sc) 22; simp only [World.size_alloc] at q
     exact q) (by simp; unfold maxLen; omega) (by simp; omega) (by simp; omega) w1 (by exact hBx.alloc hBx.size _) ?_
   intro v2 w2 hown2 hb2 hg2; obtain ⟨oa2, oc2, rfl, -⟩ := hown2.row.len; have HN := Lib.hid (And.intro hown2 hb2); clear hown2 hb2 hg2 hBx hsl2; go_wp2_with fail; go_roundw
   case rel => exact ⟨k + 1, ss ++ [(sa, sn, sc)], hkl, by go_num, by have q := HN.out.1; simp only [List.length_append, List.length_singleton] at q; exact q, by rw [List.length_append, HSL.out]; rfl, HS.out, HN.out.2⟩
   case measure => simp [intOf]; omega
  ·obtain rfl : k = L.length := by omega
   have HB := Lib.hid hb; obtain ⟨oa, oc, rfl, -⟩ := hown.row.len
   have HN : Hid (TkAt w.heap.size wr (.slice oa ss.length oc) (L.map (·.toks))) := Lib.hid ⟨ss, hown.row, by simpa using hsl, fun j h1 h2 => by
    rw [List.getElem_map]
    exact (hss j h1 (by simpa using h2)).below hb (Nat.le_refl _)⟩
   clear hown hss hb hsl; go_wp2_with fail; go_ret; exact ⟨_, rfl, HN.out, HB1.out.trans (HB.out.mono HB1.out.size)⟩
end Go.Proofs.YtbcdaaobbebooaaGreatDoor
