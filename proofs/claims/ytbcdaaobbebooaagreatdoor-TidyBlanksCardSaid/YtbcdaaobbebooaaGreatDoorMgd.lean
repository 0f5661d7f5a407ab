/- Texts of this claim, one behind the other: QuoG, ExD, ExE, ExF, ExG, ExH, ExI. -/
import Derived.Test.YtbcdaaobbebooaaGreatDoorMgb
import Derived.Test.YtbcdaaobbebooaaGreatDoorMgc
import Derived.Deep.RegionHeld3
set_option linter.unusedSimpArgs false
set_option linter.unusedVariables false
namespace Go.Proofs.YtbcdaaobbebooaaGreatDoor
set_option maxRecDepth 100000
set_option maxHeartbeats 20000000
open Go.RowKit Go.Tab Go.Shelf
def scanV (q : PartR) : Value := .tuple #[.string (strOf (un q.1)), .int .i64 (q.2.1 : Int), .int .i64 (q.2.2 : Int)]
def mk3 (w : World) : World := ((w.alloc (.cells #[.string ⟨#[]⟩] 9)).alloc (.cells #[.int .i64 0] 3)).alloc (.cells #[.int .i64 0] 26)
def mkR (w : World) (s : ByteArray) : World := (mk3 w).alloc (.cells #[.string s, .int .i64 0, .pointer none, .slice none 0 0] 180)
theorem mk3_size (w : World) : (mk3 w).heap.size = w.heap.size + 3 := by simp [mk3]
theorem mkR_below (w : World) (s : ByteArray) : Below w.heap.size w (mkR w s) := by
 unfold mkR mk3; exact ((((Below.refl _ w).alloc (Nat.le_refl _) _).alloc (by simp) _).alloc (by simp; omega) _).alloc (by simp; omega) _
theorem mkR_box (w : World) (s : ByteArray) : Cells (mkR w s) w.heap.size #[.string ⟨#[]⟩] 9 /\ Cells (mkR w s) (w.heap.size + 1) #[.int .i64 0] 3 /\ Cells (mkR w s) (w.heap.size + 2) #[.int .i64 0] 26 := by
 unfold mkR mk3; have h0 := Cells.new w #[.string ⟨#[]⟩] 9; have h1 := Cells.new (w.alloc (.cells #[.string ⟨#[]⟩] 9)) #[.int .i64 0] 3; have h2 := Cells.new ((w.alloc (.cells #[.string ⟨#[]⟩] 9)).alloc (.cells #[.int .i64 0] 3)) #[.int .i64 0] 26; simp only [World.size_alloc] at h1 h2; exact ⟨((h0.alloc _).alloc _).alloc _, (h1.alloc _).alloc _, h2.alloc _⟩
theorem mkR_rdr (w : World) (s : ByteArray) : RdrAt (mkR w s) (w.heap.size + 3) s 0 [] := by
 have h := Cells.new (mk3 w) #[.string s, .int .i64 0, .pointer none, .slice none 0 0] 180; rw [mk3_size] at h; exact ⟨_, ⟨h, .inl rfl, _, rfl, OwnOf.nil⟩, rfl, rfl, rfl⟩
def atOf (w : World) (g : Nat) : Nat := match w.cell? ⟨g, 1, none⟩ with
 | some (.int _ n) => n.toNat
 | _ => 0
theorem RdrAt.atOf {w : World} {g : Nat} {s : ByteArray} {k : Nat} {l : List UInt8} (h : RdrAt w g s k l) : YtbcdaaobbebooaaGreatDoor.atOf w g = k := by
 obtain ⟨cs, h1, _, _, h7⟩ := h; unfold YtbcdaaobbebooaaGreatDoor.atOf; rw [h1.cells.cell 1 _ h7]; simp
theorem un_length (l : List Nat) : (un l).length = l.length := by simp [un]
theorem qScan_any (s : ByteArray) (w : World) (hs : s.size <= 1048576) (hT : Tab w) :
    Calls Tryz.prog 126 #[.string s] w fun e w' => e = .returned (scanV (scanQ (bs s))) /\ Below w.heap.size w w' := by
  have hmf : ∀ (fn : Fn) (first cap : Array Value) (w : World), (Instr.makeFunc fn first cap).run Tryz.prog w = .ok (.func fn first cap) w := fun _ _ _ _ => rfl
  have hpos := hT.pos; have hR := mkR_rdr w s; obtain ⟨x0, x1, x2⟩ := mkR_box w s; have hB := mkR_below w s; have hTR := hT.below hB hpos
  cases hq : bs s with
  | nil =>
    have hN := rnext_nil (mkR w s) _ s 0 [] hR (Nat.zero_le _) (by simpa using hq) (by omega)
    have HC : Hid (scanQ (bs s) = errR 2) := Lib.hid (by rw [hq]; rfl)
    rw [<- hq]; unfold mkR mk3 at hN; clear hq; go_enter_defers Tryz.func126, Tryz.ntmps126
    go_wp2_with fail; refine hN.mono ?_; rintro e w1 ⟨rfl, hb1⟩; have y0 := x0.below hb1 (by omega)
    have y1 := x1.below hb1 (by omega)
    have y2 := x2.below hb1 (by omega)
    go_wp2; refine leaves_cons (f := 154) (args := #[.pointer (some ⟨w.heap.size, 0, none⟩), .pointer (some ⟨w.heap.size + 1, 0, none⟩), .pointer (some ⟨w.heap.size + 2, 0, none⟩)]) (by simp) (by simp [go_sem]) ?_
    refine (catch_panicking w.heap.size (w.heap.size + 1) (w.heap.size + 2) _ _ _ _ [] _ y0 y1 y2 (by omega) (by omega)).mono ?_
    rintro e u' w'' ⟨rfl, rfl, r0, r1, r2, hbl⟩; have q0 := r0.cell 0 _ rfl; have q1 := r1.cell 0 _ rfl; have q2 := r2.cell 0 _ rfl; clear r0 r1 r2; simp [Leaves, settle, results, Tryz.results126, go_sem, q0, q1, q2]
    exact ⟨by rw [HC.out]; rfl, (hB.trans (hb1.mono (by omega))).trans hbl⟩
  | cons c r =>
    have hN := rnext_cons (mkR w s) _ s 0 [] hR (by simpa using hq) (by omega)
    have hc : c < 256 := bs_lt c (by rw [hq]; simp)
    have hlen : r.length + 1 = s.size := by rw [<- bs_length, hq]; rfl
    by_cases hc34 : c = 34
    . subst hc34
      have HQ : Hid (scanQ (bs s) = joinR [] 1 (bodyQ ((bs s).drop 1))) := Lib.hid (by rw [hq]; rfl)
      rw [<- hq]; unfold mkR mk3 at hN; clear hq; go_enter_defers Tryz.func126, Tryz.ntmps126
      go_wp2_with fail; refine hN.mono ?_; clear hN; rintro e w1 ⟨rfl, hR1, hb1, hB1⟩; have y0 := x0.below hb1 (by omega)
      have y1 := x1.below hb1 (by omega)
      have y2 := x2.below hb1 (by omega)
      have hb1' := hB.trans (hb1.mono (by omega))
      clear x0 x1 x2 hB1 hb1 hB hR hTR; go_wp2_with fail; go_loopw [] (fun wr => ∃ (k : Nat) (pre : List Nat), RdrAt wr (w.heap.size + 3) s k (un pre) /\ k <= s.size /\ pre.length <= 4 * k /\ joinR pre k (bodyQ ((bs s).drop k)) = scanQ (bs s) /\ Cells wr w.heap.size #[.string ⟨#[]⟩] 9 /\ Cells wr (w.heap.size + 1) #[.int .i64 0] 3 /\ Cells wr (w.heap.size + 2) #[.int .i64 0] 26 /\ Below w.heap.size w wr) (fun wr => s.size - atOf wr (w.heap.size + 3))
      case atStart => exact ⟨1, [], hR1, by omega, by simp, HQ.out.symm, y0, y1, y2, hb1'⟩
      case round =>
        clear hR1 y0 y1 y2 hb1' HQ; obtain ⟨k, pre, hR, hk, hpl, hj, x0, x1, x2, hb⟩ := hrel; have HJ := Lib.hid hj; have hat : atOf wr (w.heap.size + 3) = k := hR.atOf; have hT1 := hT.below hb hpos; have hP := part_any wr _ s k (un pre) hR hk hs (by rw [un_length]; omega) hT1 (by omega)
        clear hj; have hBy : Byt ((bs s).drop k) := fun x hx => bs_lt x (List.mem_of_mem_drop hx); go_wp2_with fail; refine hP.mono ?_; clear hP; rintro e w2 (⟨hh, rfl, hR2, hb2⟩ | ⟨hh, he, rfl, hR2, hb2⟩ | ⟨hh, he, rfl, hb2⟩)
        . have HC : Hid (scanQ (bs s) = (pre, k + 1, 0)) := Lib.hid (by rw [<- HJ.out, joinR_end hBy hh])
          have y0 := x0.below hb2 (by omega)
          have y1 := x1.below hb2 (by omega)
          have y2 := x2.below hb2 (by omega)
          have hb3 := hb.trans (hb2.mono (by omega))
          clear hh hBy x0 x1 x2 hb hb2 HJ hR hat; obtain ⟨cs, hbl, h5, h6, h7⟩ := hR2; have hlt2 := hbl.cells.lt; have hg2 := hbl.cells; have hc2 : w2.drew.cell? ⟨w.heap.size + 1 + 1 + 1, 1, none⟩ = some (.int .i64 ((k + 1 : Nat) : Int)) := hbl.cells.cell 1 _ h7; have hl2 : (un pre).length <= 1000000000 := by rw [un_length]; omega
          have hSt := String_any w2.drew (h := (show Bld 180 (w.heap.size + 3) w2.drew (w.heap.size + 3) 2 cs (un pre) from ⟨hbl.cells.drew, hbl.addr, by obtain ⟨v, e1, e2⟩ := hbl.buf; exact ⟨v, e1, e2.drew⟩⟩)) (Nat.le_of_lt hlt2) hl2
          obtain ⟨S, hS⟩ : ∃ S : ByteArray, S = ⟨(un pre).toArray⟩ := ⟨_, rfl⟩; rw [<- hS] at hSt; have HS := Lib.hid hS; clear hS hbl hl2 h5 h6; go_wp2_with fail
          go_region_held3 (fun w' => w'.cell? ⟨w.heap.size + 1 + 1 + 1, 1, none⟩ = some (.int .i64 ((k + 1 : Nat) : Int))) (first | exact hc2 | exact hc6 | exact hc7 | exact hc8 | exact hc9) (first
            | (go_at_call 43; refine hSt.mono ?_; rintro e6 w6 ⟨rfl, hb6, hk6⟩
               have hz2 := y2.lt; have z0 : Cells w6 w.heap.size _ _ := hk6 _ _ y0.lt y0 (fun _ _ h => by cases h)
               have z1 : Cells w6 (w.heap.size + 1) _ _ := hk6 _ _ y1.lt y1 (fun _ _ h => by cases h)
               have z2 : Cells w6 (w.heap.size + 1 + 1) _ _ := hk6 _ _ y2.lt y2 (fun _ _ h => by cases h)
               have zg : Cells w6 (w.heap.size + 1 + 1 + 1) cs 180 := hk6 _ _ hlt2 hg2 (fun _ _ h => by cases h)
               have hc6 := zg.cell 1 _ h7; have zg7 := zg.setOther ⟨w.heap.size, 0, none⟩ (.string S) (by simp; omega)
               have zg8 := zg7.setOther ⟨w.heap.size + 1, 0, none⟩ (.int .i64 ((k + 1 : Nat) : Int)) (by simp)
               have zg9 := zg8.setOther ⟨w.heap.size + 1 + 1, 0, none⟩ (.int .i64 0) (by simp)
               have hc7 := zg7.cell 1 _ h7; have hc8 := zg8.cell 1 _ h7; have hc9 := zg9.cell 1 _ h7; have z0c := z0.cell 0 _ rfl; have z0f := z0.frozen 0; have z1c := z1.cell 0 _ rfl; have z1f := z1.frozen 0; have z2c := z2.cell 0 _ rfl
               have z2f := z2.frozen 0))
          have r0 := ((z0.set 0 (by simp) (.string S)).setOther ⟨w.heap.size + 1, 0, none⟩ (.int .i64 ((k + 1 : Nat) : Int)) (by simp)).setOther ⟨w.heap.size + 1 + 1, 0, none⟩ (.int .i64 0) (by simp; omega)
          have r1 := ((z1.setOther ⟨w.heap.size, 0, none⟩ (.string S) (by simp)).set 0 (by simp) (.int .i64 ((k + 1 : Nat) : Int))).setOther ⟨w.heap.size + 1 + 1, 0, none⟩ (.int .i64 0) (by simp)
          have r2 := ((z2.setOther ⟨w.heap.size, 0, none⟩ (.string S) (by simp; omega)).setOther ⟨w.heap.size + 1, 0, none⟩ (.int .i64 ((k + 1 : Nat) : Int)) (by simp)).set 0 (by simp) (.int .i64 0)
          have hb7 : Below w.heap.size w w6 := hb3.drew.trans (hb6.mono (by omega))
          have hb8 := ((hb7.setCell (p := ⟨w.heap.size, 0, none⟩) (Nat.le_refl _) (.string S)).setCell (p := ⟨w.heap.size + 1, 0, none⟩) (by simp) (.int .i64 ((k + 1 : Nat) : Int))).setCell (p := ⟨w.heap.size + 1 + 1, 0, none⟩) (by simp; omega) (.int .i64 0)
          have q0 := r0.cell 0 _ rfl; have q1 := r1.cell 0 _ rfl; have q2 := r2.cell 0 _ rfl; clear r0 r1 r2 z0 z1 z2 zg zg7 zg8 zg9 z0c z0f z1c z1f z2c z2f hc2 hc6 hc7 hc8 hc9 hk6 hSt; go_wp2; refine leaves_cons (f := 154) (args := #[.pointer (some ⟨w.heap.size, 0, none⟩), .pointer (some ⟨w.heap.size + 1, 0, none⟩), .pointer (some ⟨w.heap.size + 1 + 1, 0, none⟩)]) (by simp) (by simp [go_sem]) ?_
          refine (catch_idle _ _ _ _).mono ?_; rintro e u' w'' ⟨rfl, rfl, rfl⟩; simp only [Int.natCast_add, Int.natCast_one] at q0 q1 q2 hb8; simp [Leaves, settle, results, Tryz.results126, go_sem, q0, q1, q2]
          exact ⟨by rw [HC.out, HS.out]; rfl, hb8⟩
        . obtain ⟨c, hc1, hc2, hc3, hc4⟩ := partQ_ok hBy he
          have HN : Hid (joinR (pre ++ (partQ ((bs s).drop k)).1) (k + (partQ ((bs s).drop k)).2.1) (bodyQ ((bs s).drop (k + (partQ ((bs s).drop k)).2.1))) = scanQ (bs s)) := Lib.hid (by rw [<- HJ.out, joinR_good hBy hh he, List.drop_drop])
          have hpl2 : (pre ++ (partQ ((bs s).drop k)).1).length <= 4 * (k + (partQ ((bs s).drop k)).2.1) := by
            rw [List.length_append, hc2, putN_len]; have := (wid_pos c).2; omega
          have hk2 : k + (partQ ((bs s).drop k)).2.1 <= s.size := by rw [List.length_drop, bs_length] at hc4; omega
          have hR3 : RdrAt w2 (w.heap.size + 3) s (k + (partQ ((bs s).drop k)).2.1) (un (pre ++ (partQ ((bs s).drop k)).1)) := by rw [un_append]; exact hR2
          have hat2 : atOf w2 (w.heap.size + 3) = k + (partQ ((bs s).drop k)).2.1 := hR3.atOf; have y0 := x0.below hb2 (by omega)
          have y1 := x1.below hb2 (by omega)
          have y2 := x2.below hb2 (by omega)
          have hb3 := hb.trans (hb2.mono (by omega))
          generalize (partQ ((bs s).drop k)).2.1 = z at *; generalize (partQ ((bs s).drop k)).1 = zo at *; have HAT := Lib.hid hat; have HAT2 := Lib.hid hat2; clear hat hat2 hh he hc2; go_wp2; go_roundw
          case rel => exact ⟨k + z, pre ++ zo, hR3, hk2, hpl2, HN.out, y0, y1, y2, hb3⟩
          case measure => rw [HAT.out, HAT2.out]; omega
        . have HC : Hid (scanQ (bs s) = errR (partQ ((bs s).drop k)).2.2) := Lib.hid (by rw [<- HJ.out, joinR_bad hBy hh he])
          have y0 := x0.below hb2 (by omega)
          have y1 := x1.below hb2 (by omega)
          have y2 := x2.below hb2 (by omega)
          have hb3 := hb.trans (hb2.mono (by omega))
          clear hh hBy x0 x1 x2 hb hb2 HJ hR he hat; generalize (partQ ((bs s).drop k)).2.2 = z at *; go_wp2; refine leaves_cons (f := 154) (args := #[.pointer (some ⟨w.heap.size, 0, none⟩), .pointer (some ⟨w.heap.size + 1, 0, none⟩), .pointer (some ⟨w.heap.size + 2, 0, none⟩)]) (by simp) (by simp [go_sem]) ?_
          refine (catch_panicking w.heap.size (w.heap.size + 1) (w.heap.size + 2) _ _ _ _ [] _ y0 y1 y2 (by omega) (by omega)).mono ?_
          rintro e u' w'' ⟨rfl, rfl, r0, r1, r2, hbl⟩; have q0 := r0.cell 0 _ rfl; have q1 := r1.cell 0 _ rfl; have q2 := r2.cell 0 _ rfl; clear r0 r1 r2; simp [Leaves, settle, results, Tryz.results126, go_sem, q0, q1, q2]
          exact ⟨by rw [HC.out]; rfl, hb3.trans hbl⟩
    . have HC : Hid (scanQ (bs s) = errR 3) := Lib.hid (by rw [hq]; simp only [scanQ]; rw [if_pos hc34])
      have hbc : ((c : Int) != 34) = true := by rw [bne_iff_ne]; omega
      rw [<- hq]; unfold mkR mk3 at hN; clear hq hc34; go_enter_defers Tryz.func126, Tryz.ntmps126
      go_wp2_with fail; refine hN.mono ?_; rintro e w1 ⟨rfl, hR1, hb1, hB1⟩; have y0 := x0.below hb1 (by omega)
      have y1 := x1.below hb1 (by omega)
      have y2 := x2.below hb1 (by omega)
      go_wp2_with fail; refine (fail_any 3 _).mono ?_; rintro e w2 ⟨rfl, rfl⟩; go_wp2; refine leaves_cons (f := 154) (args := #[.pointer (some ⟨w.heap.size, 0, none⟩), .pointer (some ⟨w.heap.size + 1, 0, none⟩), .pointer (some ⟨w.heap.size + 2, 0, none⟩)]) (by simp) (by simp [go_sem]) ?_
      refine (catch_panicking w.heap.size (w.heap.size + 1) (w.heap.size + 2) _ _ _ _ [] _ y0 y1 y2 (by omega) (by omega)).mono ?_
      rintro e u' w'' ⟨rfl, rfl, r0, r1, r2, hbl⟩; have q0 := r0.cell 0 _ rfl; have q1 := r1.cell 0 _ rfl; have q2 := r2.cell 0 _ rfl; clear r0 r1 r2; simp [Leaves, settle, results, Tryz.results126, go_sem, q0, q1, q2]
      exact ⟨by rw [HC.out]; rfl, (hB.trans (hb1.mono (by omega))).trans hbl⟩
def parseQ (l : List Nat) : List Nat × Nat := if (scanQ l).2.2 ≠ 0 then ([], (scanQ l).2.2) else if (scanQ l).2.1 < l.length then ([], 14) else ((scanQ l).1, 0)
def parseV (q : List Nat × Nat) : Value := .tuple #[.string (strOf (un q.1)), .int .i64 (q.2 : Int)]
theorem Parse_any (s : ByteArray) (w : World) (hs : s.size <= 1048576) (hT : Tab w) :
  Calls Tryz.prog 163 #[.string s] w fun e w' => e = .returned (parseV (parseQ (bs s))) /\ Below w.heap.size w w' := by
 have hS := qScan_any s w hs hT; unfold scanV at hS; unfold parseV parseQ; rw [bs_length]; generalize scanQ (bs s) = q at *; obtain ⟨o, z, e⟩ := q; simp only at hS ⊢
 by_cases he : e = 0
 ·subst he
  simp only [ne_eq, not_true_eq_false, if_false]
  by_cases hz : z < s.size
  ·rw [if_pos hz]
   go_enter Tryz.func163, Tryz.ntmps163; go_wp2_with fail; refine hS.mono ?_; rintro e w1 ⟨rfl, hb1⟩; go_wp2; go_ret2
   exact ⟨rfl, hb1⟩
  ·rw [if_neg hz]
   have hz' : s.size <= z := by omega
   clear hz; go_enter Tryz.func163, Tryz.ntmps163; go_wp2_with fail; refine hS.mono ?_; rintro e w1 ⟨rfl, hb1⟩; go_wp2; go_ret2
   exact ⟨rfl, hb1⟩
 ·rw [if_pos he]
  have hbe : ((e : Int) != 0) = true := by rw [bne_iff_ne]; omega
  clear he; go_enter Tryz.func163, Tryz.ntmps163; go_wp2_with fail; refine hS.mono ?_; rintro e w1 ⟨rfl, hb1⟩; go_wp2; go_ret2
  exact ⟨rfl, hb1⟩
end Go.Proofs.YtbcdaaobbebooaaGreatDoor
namespace Go.Proofs.YtbcdaaobbebooaaGreatDoor
set_option maxRecDepth 100000
set_option maxHeartbeats 20000000
open Go.RowKit Go.Tab
abbrev PrC (w : World) (g : Nat) (lv : Value) (k : Int) (e : Int) : Prop := Cells w g #[lv, .int .i64 k, .int .i64 e] 220
structure Prs (w : World) (g : Nat) (lv : Value) (l : List Tok) (k : Nat) : Prop where
 box : PrC w g lv (k : Nat) 0
 toks : ToksAt w lv l
 own : ∀ b, lv.ownBlock = some b -> b < g
 le : k <= l.length
 small : l.length <= 1000000
 tab : Tab w
 tabg : 1 < g
 short : ∀ t ∈ l, t.text.size <= 1048576
theorem Prs.go {w w' : World} {g : Nat} {lv : Value} {l : List Tok} {k k' : Nat} (h : Prs w g lv l k) (hs : Save g w w') (hc : PrC w' g lv (k' : Nat) 0) (hk : k' <= l.length) : Prs w' g lv l k' :=
 ⟨hc, h.toks.moved hs.size (fun b off hb hv => cell_same (hs.2 b hb (by have := h.own b hv; omega)) off), h.own, hk, h.small, fun j hj => (hs.cell (h.tab j hj) (by have := h.tabg; omega)), h.tabg, h.short⟩
theorem is_no (w : World) (g : Nat) (lv : Value) (k e : Int) (s : ByteArray) (hc : PrC w g lv k e) (he : e ≠ 0) (hl : ∃ a n c, lv = .slice a n c) :
  Calls Tryz.prog 219 #[.pointer (some ⟨g, 0, none⟩), .string s] w fun r w' => r = .returned (.bool false) /\ ∃ n, w' = w.drewN n := by
 obtain ⟨a, n, c, rfl⟩ := hl; have hlt := hc.lt; have hne : (e != 0) = true := by simpa using he
 have hcc0 := hc.cell 0 _ rfl; have hcf0 := hc.frozen 0; have hcc1 := hc.cell 1 _ rfl; have hcf1 := hc.frozen 1; have hcc2 := hc.cell 2 _ rfl; have hcf2 := hc.frozen 2; go_enter Tryz.func219, Tryz.ntmps219; go_wp2_with fail; go_quiet (fail)
 go_wp2; go_ret; exact ⟨rfl, _, rfl⟩
theorem is_ok (w : World) (g : Nat) (lv : Value) (l : List Tok) (k : Nat) (s : ByteArray) (h : Prs w g lv l k) :
  Calls Tryz.prog 219 #[.pointer (some ⟨g, 0, none⟩), .string s] w fun r w' => r = .returned (.bool (isS (l.drop k) s)) /\ Below w.heap.size w w' := by
 have hc := h.box; have hlt := hc.lt; obtain ⟨a, c, rfl, hl1, hl2, -⟩ := h.toks.len; unfold maxLen at hl2; have hle := h.le
 by_cases hk : k = l.length
 ·subst hk
  rw [List.drop_length]; have hcc0 := hc.cell 0 _ rfl; have hcf0 := hc.frozen 0; have hcc1 := hc.cell 1 _ rfl; have hcf1 := hc.frozen 1; have hcc2 := hc.cell 2 _ rfl; have hcf2 := hc.frozen 2; go_enter Tryz.func219, Tryz.ntmps219; go_wp2_with fail; go_quiet (fail)
  go_wp2; go_ret; exact ⟨rfl, below_draws _ _ _⟩
 ·have hkl : k < l.length := by omega
  obtain ⟨b, off, rfl, hb, c0, c1, c2⟩ := ToksAt.get h.toks hkl; have hd : isS (l.drop k) s = (decide (l[k].kind = 4) && decide (l[k].text = s)) := by rw [List.drop_eq_getElem_cons hkl]; rfl
  rw [hd]; have hqk : ((k : Int) == (l.length : Int)) = false := by rw [beq_eq_false_iff_ne]; omega
  generalize l[k] = t at *; clear hd hk; have hcc0 := hc.cell 0 _ rfl; have hcf0 := hc.frozen 0; have hcc1 := hc.cell 1 _ rfl; have hcf1 := hc.frozen 1; have hcc2 := hc.cell 2 _ rfl; have hcf2 := hc.frozen 2; go_enter Tryz.func219, Tryz.ntmps219; go_wp2_with fail; go_quiet (fail)
  go_wp2_with fail; have ha : ∀ (n b' o' : Nat) (u : Value), b' < w.heap.size -> w.cell? ⟨b', o', none⟩ = some u -> ((w.drewN n).alloc (.cells #[.int .i64 0, .string ⟨#[]⟩, .int .i64 0] 63)).cell? ⟨b', o', none⟩ = some u := fun n b' o' u h1 h2 => (World.cell?_alloc_past _ _ _ h1).trans h2; have ha0 := fun n => ha n _ _ _ hlt hcc0; have ha1 := fun n => ha n _ _ _ hlt hcc1; have hb0 := fun n => ha n _ _ _ hb c0; have hb1 := fun n => ha n _ _ _ hb c1; have hb2 := fun n => ha n _ _ _ hb c2; have hn := fun n => Cells.new (w.drewN n) #[.int .i64 0, .string ⟨#[]⟩, .int .i64 0] 63; have hn0 : ∀ n, ((w.drewN n).alloc (.cells #[.int .i64 0, .string ⟨#[]⟩, .int .i64 0] 63)).cell? ⟨w.heap.size, 0, none⟩ = some (.int .i64 0) := fun n => (hn n).cell 0 _ rfl; have hn1 : ∀ n, ((w.drewN n).alloc (.cells #[.int .i64 0, .string ⟨#[]⟩, .int .i64 0] 63)).cell? ⟨w.heap.size, 1, none⟩ = some (.string ⟨#[]⟩) := fun n => (hn n).cell 1 _ rfl; have hn2 : ∀ n, ((w.drewN n).alloc (.cells #[.int .i64 0, .string ⟨#[]⟩, .int .i64 0] 63)).cell? ⟨w.heap.size, 2, none⟩ = some (.int .i64 0) := fun n => (hn n).cell 2 _ rfl; have hm0 : ∀ n, ((w.drewN n).alloc (.cells #[.int .i64 0, .string ⟨#[]⟩, .int .i64 0] 63)).frozen? ⟨w.heap.size, 0, none⟩ = false := fun n => (hn n).frozen 0; have hm1 : ∀ n, ((w.drewN n).alloc (.cells #[.int .i64 0, .string ⟨#[]⟩, .int .i64 0] 63)).frozen? ⟨w.heap.size, 1, none⟩ = false := fun n => (hn n).frozen 1; have hm2 : ∀ n, ((w.drewN n).alloc (.cells #[.int .i64 0, .string ⟨#[]⟩, .int .i64 0] 63)).frozen? ⟨w.heap.size, 2, none⟩ = false := fun n => (hn n).frozen 2
  go_region
  have hbe : Below w.heap.size w (((((w.drewN (nq + 1)).alloc (.cells #[.int .i64 0, .string ⟨#[]⟩, .int .i64 0] 63)).setCell ⟨w.heap.size, 0, none⟩ (.int .i64 t.kind)).setCell ⟨w.heap.size, 1, none⟩ (.string t.text)).setCell ⟨w.heap.size, 2, none⟩ (.int .i64 t.pos)) :=
   setAll_below _ _ (Nat.le_refl _) [.int .i64 t.kind, .string t.text, .int .i64 t.pos] 0 _ _ ((below_draws w.heap.size w (nq + 1)).alloc (Nat.le_refl _) _)
  have hcl : Cells (((((w.drewN (nq + 1)).alloc (.cells #[.int .i64 0, .string ⟨#[]⟩, .int .i64 0] 63)).setCell ⟨w.heap.size, 0, none⟩ (.int .i64 t.kind)).setCell ⟨w.heap.size, 1, none⟩ (.string t.text)).setCell ⟨w.heap.size, 2, none⟩ (.int .i64 t.pos)) w.heap.size #[.int .i64 t.kind, .string t.text, .int .i64 t.pos] 63 := Cells.put [.int .i64 t.kind, .string t.text, .int .i64 t.pos] 0 (hn (nq + 1)); generalize (((((w.drewN (nq + 1)).alloc (.cells #[.int .i64 0, .string ⟨#[]⟩, .int .i64 0] 63)).setCell ⟨w.heap.size, 0, none⟩ (.int .i64 t.kind)).setCell ⟨w.heap.size, 1, none⟩ (.string t.text)).setCell ⟨w.heap.size, 2, none⟩ (.int .i64 t.pos)) = W1 at hbe hcl ⊢; have hl1 := hcl.lt; have HBE := Lib.hid hbe; clear hbe ha ha0 ha1 hb0 hb1 hb2 hn hn0 hn1 hn2 hm0 hm1 hm2 c0 c1 c2 hcc0 hcc1 hcc2 hcf0 hcf1 hcf2 hc h; have hclc0 := hcl.cell 0 _ rfl; have hclf0 := hcl.frozen 0; have hclc1 := hcl.cell 1 _ rfl; have hclf1 := hcl.frozen 1; have hclc2 := hcl.cell 2 _ rfl; have hclf2 := hcl.frozen 2; clear hcl
  by_cases h4 : t.kind = 4
  ·have h4b : (t.kind == 4) = true := by rw [beq_iff_eq]; exact h4
   by_cases hs : t.text = s
   ·subst hs
    have H4 := Lib.hid h4; clear h4; go_wp2; go_ret; exact ⟨ret_bool (by simp [H4.out]), HBE.out⟩
   ·have hx := str_ne hs
    have HS := Lib.hid hs; clear h4 hs; go_wp2; go_ret; exact ⟨ret_bool (by simp [HS.out]), HBE.out⟩
  ·have hx : (t.kind == 4) = false := by rw [beq_eq_false_iff_ne]; exact h4
   have H4 := Lib.hid h4; clear h4; go_wp2; go_ret; exact ⟨ret_bool (by simp [H4.out]), HBE.out⟩
theorem fail_ok (w : World) (g : Nat) (lv : Value) (k e : Int) (hc : PrC w g lv k 0) :
  Calls Tryz.prog 232 #[.pointer (some ⟨g, 0, none⟩), .int .i64 e] w fun r w' => r = .returned (.tuple #[]) /\ PrC w' g lv k e /\ Save g w w' := by
 have hlt := hc.lt; have hq := hc.setI 2 (.int .i64 e); have HQ := Lib.hid hq; clear hq; have hcc0 := hc.cell 0 _ rfl; have hcf0 := hc.frozen 0; have hcc1 := hc.cell 1 _ rfl; have hcf1 := hc.frozen 1; have hcc2 := hc.cell 2 _ rfl; have hcf2 := hc.frozen 2; go_enter Tryz.func232, Tryz.ntmps232; go_wp2
 (first | go_end0 | refine bodyPost_ret (results_none rfl _ _ _) rfl ?_)
 exact ⟨rfl, HQ.out, (Save.refl g w).set 2 _⟩
theorem fail_no (w : World) (g : Nat) (lv : Value) (k e e2 : Int) (hc : PrC w g lv k e) (he : e ≠ 0) :
  Calls Tryz.prog 232 #[.pointer (some ⟨g, 0, none⟩), .int .i64 e2] w fun r w' => r = .returned (.tuple #[]) /\ w = w' := by
 have hlt := hc.lt; have hne : (e == 0) = false := by simpa using he
 have hcc0 := hc.cell 0 _ rfl; have hcf0 := hc.frozen 0; have hcc1 := hc.cell 1 _ rfl; have hcf1 := hc.frozen 1; have hcc2 := hc.cell 2 _ rfl; have hcf2 := hc.frozen 2; go_enter Tryz.func232, Tryz.ntmps232; go_wp2
 (first | go_end0 | refine bodyPost_ret (results_none rfl _ _ _) rfl ?_)
 exact ⟨rfl, rfl⟩
def wrE (r : List Tok) : Int := if r = [] then 2 else 3
theorem wrE_ne (r : List Tok) : wrE r ≠ 0 := by unfold wrE; split <;> decide
theorem badX_e (r : List Tok) (n : Nat) : badX r n = (zeroX, n, wrE r) := by unfold badX wrE; split <;> rfl
theorem wrong_ok (w : World) (g : Nat) (lv : Value) (l : List Tok) (k : Nat) (h : Prs w g lv l k) :
  Calls Tryz.prog 233 #[.pointer (some ⟨g, 0, none⟩)] w fun r w' => r = .returned (.tuple #[]) /\ PrC w' g lv (k : Nat) (wrE (l.drop k)) /\ Save g w w' := by
 have hc := h.box; have hlt := hc.lt; obtain ⟨a, c, rfl, hl1, hl2, -⟩ := h.toks.len; have hle := h.le; have hF := fun n => fail_ok (w.drewN n) g (.slice a l.length c) (k : Nat) (wrE (l.drop k)) (hc.drewN n)
 by_cases hk : k = l.length
 ·have hw : wrE (l.drop k) = 2 := by rw [hk, List.drop_length]; rfl
  rw [hw] at hF ⊢; have hq : ((k : Int) == (l.length : Int)) = true := by rw [beq_iff_eq]; omega
  clear hk h hw; have hcc0 := hc.cell 0 _ rfl; have hcf0 := hc.frozen 0; have hcc1 := hc.cell 1 _ rfl; have hcf1 := hc.frozen 1; have hcc2 := hc.cell 2 _ rfl; have hcf2 := hc.frozen 2; go_enter Tryz.func233, Tryz.ntmps233; go_wp2_with fail; go_quiet (fail)
  go_wp2_with fail; refine (hF _).mono ?_; rintro _ w2 ⟨rfl, hc2, hs2⟩; go_wp2
  (first | go_end0 | refine bodyPost_ret (results_none rfl _ _ _) rfl ?_)
  exact ⟨rfl, hc2, (Save.of (below_draws _ _ _)).trans hs2⟩
 ·have hw : wrE (l.drop k) = 3 := by
   unfold wrE; rw [if_neg (by rw [List.drop_eq_nil_iff]; omega)]
  rw [hw] at hF ⊢; have hq : ((k : Int) == (l.length : Int)) = false := by rw [beq_eq_false_iff_ne]; omega
  clear hk h hw; have hcc0 := hc.cell 0 _ rfl; have hcf0 := hc.frozen 0; have hcc1 := hc.cell 1 _ rfl; have hcf1 := hc.frozen 1; have hcc2 := hc.cell 2 _ rfl; have hcf2 := hc.frozen 2; go_enter Tryz.func233, Tryz.ntmps233; go_wp2_with fail; go_quiet (fail)
  go_wp2_with fail; refine (hF _).mono ?_; rintro _ w2 ⟨rfl, hc2, hs2⟩; go_wp2
  (first | go_end0 | refine bodyPost_ret (results_none rfl _ _ _) rfl ?_)
  exact ⟨rfl, hc2, (Save.of (below_draws _ _ _)).trans hs2⟩
theorem wrong_no (w : World) (g : Nat) (lv : Value) (k e : Int) (hc : PrC w g lv k e) (he : e ≠ 0) (hl : ∃ a n c, lv = .slice a n c) :
  Calls Tryz.prog 233 #[.pointer (some ⟨g, 0, none⟩)] w fun r w' => r = .returned (.tuple #[]) /\ ∃ n, w' = w.drewN n := by
 obtain ⟨a, n, c, rfl⟩ := hl; have hlt := hc.lt; have hF := fun m e2 => fail_no (w.drewN m) g (.slice a n c) k e e2 (hc.drewN m) he; cases hq : (k == (n : Int))
 all_goals
  have hcc0 := hc.cell 0 _ rfl; have hcf0 := hc.frozen 0; have hcc1 := hc.cell 1 _ rfl; have hcf1 := hc.frozen 1; have hcc2 := hc.cell 2 _ rfl; have hcf2 := hc.frozen 2; go_enter Tryz.func233, Tryz.ntmps233; go_wp2_with fail; go_quiet (fail)
  go_wp2_with fail; refine (hF _ _).mono ?_; rintro _ _ ⟨rfl, hw1⟩; cases hw1
  go_wp2
  (first | go_end0 | refine bodyPost_ret (results_none rfl _ _ _) rfl ?_)
  exact ⟨rfl, _, rfl⟩
theorem into_yes (w : World) (g : Nat) (lv : Value) (k d : Nat) (hc : PrC w g lv (k : Nat) 0) (hd : d < 64) (hk : k <= 1000000) :
  Calls Tryz.prog 220 #[.pointer (some ⟨g, 0, none⟩), .int .i64 ((d : Int) + 1)] w fun r w' => r = .returned (.bool true) /\ PrC w' g lv ((k + 1 : Nat)) 0 /\ Save g w w' := by
 have hlt := hc.lt; have HQ := Lib.hid (hc.setI 1 (.int .i64 ((k : Int) + 1))); have hcc0 := hc.cell 0 _ rfl; have hcf0 := hc.frozen 0; have hcc1 := hc.cell 1 _ rfl; have hcf1 := hc.frozen 1; have hcc2 := hc.cell 2 _ rfl; have hcf2 := hc.frozen 2; go_enter Tryz.func220, Tryz.ntmps220; go_wp2; go_ret; exact ⟨rfl, HQ.out, (Save.refl g w).set 1 _⟩
theorem into_no (w : World) (g : Nat) (lv : Value) (k d : Nat) (hc : PrC w g lv (k : Nat) 0) (hd : 64 <= d) :
  Calls Tryz.prog 220 #[.pointer (some ⟨g, 0, none⟩), .int .i64 ((d : Int) + 1)] w fun r w' => r = .returned (.bool false) /\ PrC w' g lv (k : Nat) 5 /\ Save g w w' := by
 have hF := fail_ok w g lv (k : Nat) 5 hc; go_enter Tryz.func220, Tryz.ntmps220; go_wp2_with fail; refine hF.mono ?_; rintro _ w2 ⟨rfl, hc2, hs2⟩; go_wp2; go_ret; exact ⟨rfl, hc2, hs2⟩
theorem need_ok (w : World) (g : Nat) (lv : Value) (l : List Tok) (k : Nat) (s : ByteArray) (h : Prs w g lv l k) :
  Calls Tryz.prog 221 #[.pointer (some ⟨g, 0, none⟩), .string s] w fun r w' => r = .returned (.tuple #[]) /\
   PrC w' g lv ((if isS (l.drop k) s then k + 1 else k : Nat)) (if isS (l.drop k) s then 0 else wrE (l.drop k)) /\ Save g w w' := by
 have hI := is_ok w g lv l k s h; have hkl := h.le; have hsm := h.small
 cases hs : isS (l.drop k) s with
 | true =>
  rw [hs] at hI; go_enter Tryz.func221, Tryz.ntmps221; go_wp2_with fail; refine hI.mono ?_; rintro _ w2 ⟨rfl, hb2⟩; have hc2 := h.box.below hb2 h.box.lt; have hlt := hc2.lt; have HQ := Lib.hid (hc2.setI 1 (.int .i64 ((k : Int) + 1))); have HB := Lib.hid (Save.of (g := g) hb2); clear hb2 hs hI; have hc2c0 := hc2.cell 0 _ rfl; have hc2f0 := hc2.frozen 0; have hc2c1 := hc2.cell 1 _ rfl; have hc2f1 := hc2.frozen 1; have hc2c2 := hc2.cell 2 _ rfl; have hc2f2 := hc2.frozen 2; clear hc2; go_wp2
  (first | go_end0 | refine bodyPost_ret (results_none rfl _ _ _) rfl ?_)
  exact ⟨rfl, HQ.out, HB.out.set 1 _⟩
 | false =>
  rw [hs] at hI; go_enter Tryz.func221, Tryz.ntmps221; go_wp2_with fail; refine hI.mono ?_; rintro _ w2 ⟨rfl, hb2⟩; have hs2 := Save.of (g := g) hb2; have hW := wrong_ok w2 g lv l k (h.go hs2 (h.box.below hb2 h.box.lt) h.le); go_wp2_with fail; refine hW.mono ?_; rintro _ w3 ⟨rfl, hc3, hs3⟩; go_wp2
  (first | go_end0 | refine bodyPost_ret (results_none rfl _ _ _) rfl ?_)
  exact ⟨rfl, hc3, hs2.trans hs3⟩
theorem need_no (w : World) (g : Nat) (lv : Value) (k e : Int) (s : ByteArray) (hc : PrC w g lv k e) (he : e ≠ 0) (hl : ∃ a n c, lv = .slice a n c) :
  Calls Tryz.prog 221 #[.pointer (some ⟨g, 0, none⟩), .string s] w fun r w' => r = .returned (.tuple #[]) /\ ∃ n, w' = w.drewN n := by
 have hI := is_no w g lv k e s hc he hl; have hW := fun n => wrong_no (w.drewN n) g lv k e (hc.drewN n) he hl; go_enter Tryz.func221, Tryz.ntmps221; go_wp2_with fail; refine hI.mono ?_; rintro _ _ ⟨rfl, n, rfl⟩; go_wp2_with fail; refine (hW n).mono ?_; rintro _ _ ⟨rfl, m, rfl⟩; go_wp2
 (first | go_end0 | refine bodyPost_ret (results_none rfl _ _ _) rfl ?_)
 exact ⟨rfl, n + m, rfl⟩
theorem lv_cases (s : ByteArray) : (∃ x ∈ lvTab, s = strL x.1 /\ lvN s = x.2) \/ (lvN s = -1 /\ ∀ x ∈ lvTab, s ≠ strL x.1) := by
 unfold lvN
 cases hf : lvTab.find? (fun x => x.1 == s.data.toList) with
 | some x =>
  refine .inl ⟨x, List.mem_of_find?_eq_some hf, ?_, rfl⟩; have h1 := List.find?_some hf; simp only [beq_iff_eq] at h1; rw [h1]; exact strL_of s
 | none =>
  refine .inr ⟨rfl, fun x hx e => ?_⟩; have h1 := List.find?_eq_none.1 hf x hx; rw [e, strL_list] at h1; simp at h1
def btN (s : ByteArray) : Int := if 1 <= lvN s /\ lvN s <= 6 then lvN s else 0
theorem fresh (s : ByteArray) (h : ∀ x ∈ lvTab, s ≠ strL x.1) (l : Bs) (hl : l ∈ lvTab.map (·.1)) : (s.toList == l) = false := by
 obtain ⟨x, hx, rfl⟩ := List.mem_map.1 hl; have h1 := str_ne (h x hx); rw [show (strL x.1).toList = x.1 by rw [ByteArray.toList_eq]; rfl] at h1
 exact h1
theorem between_any (s : ByteArray) (w : World) : Calls Tryz.prog 231 #[.string s] w fun e w' => e = .returned (.int .i64 (btN s)) /\ w = w' := by
 unfold btN; rcases lv_cases s with ⟨x, hx, rfl, hv⟩ | ⟨hv, h⟩
 ·rw [hv]
  clear hv; simp only [lvTab, List.mem_cons, List.not_mem_nil, or_false] at hx; rcases hx with rfl | rfl | rfl | rfl | rfl | rfl | rfl | rfl | rfl | rfl | rfl | rfl | rfl | rfl | rfl | rfl | rfl | rfl | rfl | rfl | rfl | rfl | rfl
  all_goals
   simp only [strL]; go_enter Tryz.func231, Tryz.ntmps231; go_wp2; go_ret; exact ⟨rfl, rfl⟩
 ·rw [hv]
  have n0 := fresh s h [63] (by decide)
  have n1 := fresh s h [124, 124] (by decide)
  have n2 := fresh s h [38, 38] (by decide)
  have n3 := fresh s h [61, 61] (by decide)
  have n4 := fresh s h [33, 61] (by decide)
  have n5 := fresh s h [60] (by decide)
  have n6 := fresh s h [62] (by decide)
  have n7 := fresh s h [60, 61] (by decide)
  have n8 := fresh s h [62, 61] (by decide)
  have n9 := fresh s h [43] (by decide)
  have n10 := fresh s h [45] (by decide)
  have n11 := fresh s h [42] (by decide)
  have n12 := fresh s h [47] (by decide)
  have n13 := fresh s h [37] (by decide)
  have n14 := fresh s h [33] (by decide)
  have n15 := fresh s h [110, 101, 103] (by decide)
  have n16 := fresh s h [103, 101, 116] (by decide)
  have n17 := fresh s h [97, 116] (by decide)
  have n18 := fresh s h [110, 97, 109, 101] (by decide)
  have n19 := fresh s h [99, 97, 108, 108] (by decide)
  have n20 := fresh s h [110, 117, 109] (by decide)
  have n21 := fresh s h [116, 101, 120, 116] (by decide)
  have n22 := fresh s h [108, 105, 115, 116] (by decide)
  clear hv h; go_enter Tryz.func231, Tryz.ntmps231; go_wp2; go_ret; exact ⟨rfl, rfl⟩
theorem drewN_two (w : World) (n m : Nat) : ∃ q, (w.drewN n).drewN m = w.drewN q := ⟨n + m, World.drewN_drewN _ _ _⟩
def rkN (r : List Tok) : Int := match r with
 | [] => 0
 | t :: _ => if t.kind = 4 then btN t.text else 0
theorem btN_iff {s : ByteArray} {lv : Nat} (h1 : 1 <= lv) (h6 : lv <= 6) : btN s = lv ↔ lvN s = lv := by
 unfold btN; split <;> constructor <;> intro h <;> omega
theorem rkN_iff {r : List Tok} {lv : Nat} (h1 : 1 <= lv) (h6 : lv <= 6) : rkN r = lv ↔ ∃ o, isL r lv = some o := by
 unfold rkN isL
 cases r with
 | nil =>
  constructor
  ·intro h; simp only at h; omega
  ·rintro ⟨o, h⟩; cases h
 | cons t r =>
  simp only
  by_cases hk : t.kind = 4
  ·rw [if_pos hk, btN_iff h1 h6]
   constructor
   ·intro h; exact ⟨t.text, by rw [if_pos ⟨hk, h⟩]⟩
   ·rintro ⟨o, h⟩
    split at h
    ·next hc => exact hc.2
    ·cases h
  ·rw [if_neg hk]
   constructor
   ·intro h; omega
   ·rintro ⟨o, h⟩
    rw [if_neg (fun hc => hk hc.1)] at h; cases h
theorem isL_text {r : List Tok} {lv : Nat} {o : ByteArray} (h : isL r lv = some o) : ∃ t q, r = t :: q /\ t.text = o := by
 unfold isL at h
 cases r with
 | nil => cases h
 | cons t q =>
  simp only at h; split at h
  ·cases h; exact ⟨t, q, rfl, rfl⟩
  ·cases h
theorem rank_no (w : World) (g : Nat) (lv : Value) (k e : Int) (hc : PrC w g lv k e) (he : e ≠ 0) (hl : ∃ a n c, lv = .slice a n c) :
  Calls Tryz.prog 218 #[.pointer (some ⟨g, 0, none⟩)] w fun r w' => r = .returned (.int .i64 0) /\ ∃ n, w' = w.drewN n := by
 obtain ⟨a, n, c, rfl⟩ := hl; have hlt := hc.lt; have hne : (e != 0) = true := by simpa using he
 have hcc0 := hc.cell 0 _ rfl; have hcf0 := hc.frozen 0; have hcc1 := hc.cell 1 _ rfl; have hcf1 := hc.frozen 1; have hcc2 := hc.cell 2 _ rfl; have hcf2 := hc.frozen 2; go_enter Tryz.func218, Tryz.ntmps218; go_wp2_with fail; go_quiet (fail)
 go_wp2; go_ret; exact ⟨rfl, _, rfl⟩
theorem rank_ok (w : World) (g : Nat) (lv : Value) (l : List Tok) (k : Nat) (h : Prs w g lv l k) :
  Calls Tryz.prog 218 #[.pointer (some ⟨g, 0, none⟩)] w fun r w' => r = .returned (.int .i64 (rkN (l.drop k))) /\ ∃ n, w' = w.drewN n := by
 have hc := h.box; have hlt := hc.lt; obtain ⟨a, c, rfl, hl1, hl2, -⟩ := h.toks.len; unfold maxLen at hl2; have hle := h.le
 by_cases hk : k = l.length
 ·have hr : rkN (l.drop k) = 0 := by rw [hk, List.drop_length]; rfl
  rw [hr]; have hqk : ((k : Int) == (l.length : Int)) = true := by rw [beq_iff_eq]; omega
  clear hk hr h; have hcc0 := hc.cell 0 _ rfl; have hcf0 := hc.frozen 0; have hcc1 := hc.cell 1 _ rfl; have hcf1 := hc.frozen 1; have hcc2 := hc.cell 2 _ rfl; have hcf2 := hc.frozen 2; go_enter Tryz.func218, Tryz.ntmps218; go_wp2_with fail; go_quiet (fail)
  go_wp2; go_ret; exact ⟨rfl, _, rfl⟩
 ·have hkl : k < l.length := by omega
  obtain ⟨b, off, rfl, hb, c0, c1, c2⟩ := ToksAt.get h.toks hkl; have hd : rkN (l.drop k) = if l[k].kind = 4 then btN l[k].text else 0 := by rw [List.drop_eq_getElem_cons hkl]; rfl
  rw [hd]; have hqk : ((k : Int) == (l.length : Int)) = false := by rw [beq_eq_false_iff_ne]; omega
  generalize l[k] = t at *; clear hd hk h
  by_cases h4 : t.kind = 4
  ·rw [if_pos h4]
   have h4b : (t.kind != 4) = false := by rw [bne_eq_false_iff_eq]; exact h4
   have hB := between_any t.text; clear h4; have hcc0 := hc.cell 0 _ rfl; have hcf0 := hc.frozen 0; have hcc1 := hc.cell 1 _ rfl; have hcf1 := hc.frozen 1; have hcc2 := hc.cell 2 _ rfl; have hcf2 := hc.frozen 2; go_enter Tryz.func218, Tryz.ntmps218; go_wp2_with fail; go_quiet (fail)
   go_wp2_with fail; go_quiet (exact (hB _).mono fun _ _ h => ⟨h.1, _, h.2.symm⟩)
   go_wp2; go_ret; exact ⟨rfl, drewN_two _ _ _⟩
  ·rw [if_neg h4]
   have h4b : (t.kind != 4) = true := by rw [bne_iff_ne]; exact h4
   clear h4; have hcc0 := hc.cell 0 _ rfl; have hcf0 := hc.frozen 0; have hcc1 := hc.cell 1 _ rfl; have hcf1 := hc.frozen 1; have hcc2 := hc.cell 2 _ rfl; have hcf2 := hc.frozen 2; go_enter Tryz.func218, Tryz.ntmps218; go_wp2_with fail; go_quiet (fail)
   go_wp2; go_ret; exact ⟨rfl, _, rfl⟩
def XP (g : Nat) (lv : Value) (k : Nat) (r : GotX) (w : World) (e : Ending) (w' : World) : Prop :=
 Save g w w' /\ PrC w' g lv ((k + r.2.1 : Nat)) r.2.2 /\ ∃ o t a n c, e = .returned (exV o t (.slice a n c)) /\ (r.2.2 = 0 -> ExpIn (fun b => w.heap.size <= b) w' r.1 (expV o t (.slice a n c)))
structure TBox (w : World) (g bp bd bt d : Nat) : Prop where
 p : Cells w bp #[.pointer (some ⟨g, 0, none⟩)] 218
 d : Cells w bd #[.int .i64 (d : Nat)] 3
 t : Cells w bt #[.func (.func 216) #[] #[.pointer (some ⟨bp, 0, none⟩), .pointer (some ⟨bd, 0, none⟩), .pointer (some ⟨bt, 0, none⟩)]] 221
 np : bp ≠ g
 nd : bd ≠ g
 nt : bt ≠ g
theorem TBox.save {w w' : World} {g bp bd bt d : Nat} (h : TBox w g bp bd bt d) (hs : Save g w w') : TBox w' g bp bd bt d :=
 ⟨hs.cells h.p h.np, hs.cells h.d h.nd, hs.cells h.t h.nt, h.np, h.nd, h.nt⟩
def ChoiceC (m : Nat) : Prop := ∀ (w : World) (g : Nat) (lv : Value) (l : List Tok) (k d : Nat), Prs w g lv l k -> d <= 64 -> (parX m .choice (l.drop k) d).2.2 ≠ -1 ->
 Calls Tryz.prog 192 #[.pointer (some ⟨g, 0, none⟩), .int .i64 (d : Nat)] w (XP g lv k (parX m .choice (l.drop k) d) w)
def TermC (m : Nat) : Prop := ∀ (w : World) (g : Nat) (lv : Value) (l : List Tok) (k d n bp bd bt : Nat), Prs w g lv l k -> TBox w g bp bd bt d -> d <= 64 -> 1 <= n -> n <= 7 -> (parX m (.term n) (l.drop k) d).2.2 ≠ -1 ->
 Calls Tryz.prog 216 #[.int .i64 (n : Nat), .pointer (some ⟨bp, 0, none⟩), .pointer (some ⟨bd, 0, none⟩), .pointer (some ⟨bt, 0, none⟩)] w (XP g lv k (parX m (.term n) (l.drop k) d) w)
def TightC (m : Nat) : Prop := ∀ (w : World) (g : Nat) (lv : Value) (l : List Tok) (k d : Nat), Prs w g lv l k -> d <= 64 -> (parX m .tight (l.drop k) d).2.2 ≠ -1 ->
 Calls Tryz.prog 217 #[.pointer (some ⟨g, 0, none⟩), .int .i64 (d : Nat)] w (XP g lv k (parX m .tight (l.drop k) d) w)
def PostC (m : Nat) : Prop := ∀ (w : World) (g : Nat) (lv : Value) (l : List Tok) (k d : Nat), Prs w g lv l k -> d <= 64 -> (parX m .post (l.drop k) d).2.2 ≠ -1 ->
 Calls Tryz.prog 230 #[.pointer (some ⟨g, 0, none⟩), .int .i64 (d : Nat)] w (XP g lv k (parX m .post (l.drop k) d) w)
def PrimeC (m : Nat) : Prop := ∀ (w : World) (g : Nat) (lv : Value) (l : List Tok) (k d : Nat), Prs w g lv l k -> d <= 64 -> (parX m .prime (l.drop k) d).2.2 ≠ -1 ->
 Calls Tryz.prog 236 #[.pointer (some ⟨g, 0, none⟩), .int .i64 (d : Nat)] w (XP g lv k (parX m .prime (l.drop k) d) w)
def KidsX (B : Nat) (w : World) (kids : List Exp) (v : Value) : Prop := ∀ o t, ExpIn (fun b => B <= b) w (.mk o t kids) (expV o t v)
def ManyC (m : Nat) : Prop := ∀ (w : World) (g : Nat) (lv : Value) (l : List Tok) (k d : Nat) (s : ByteArray), Prs w g lv l k -> 1 <= (l.drop k).length -> d <= 64 -> s = sRp \/ s = sRb -> (parX m (.many s) (l.drop k) d).2.2 ≠ -1 ->
 Calls Tryz.prog 238 #[.pointer (some ⟨g, 0, none⟩), .int .i64 (d : Nat), .string s] w fun e w' =>
  Save g w w' /\ PrC w' g lv ((k + (parX m (.many s) (l.drop k) d).2.1 : Nat)) (parX m (.many s) (l.drop k) d).2.2 /\ ∃ a n c, e = .returned (.slice a n c) /\ ((parX m (.many s) (l.drop k) d).2.2 = 0 -> KidsX w.heap.size w' (parX m (.many s) (l.drop k) d).1.kids (.slice a n c))
theorem flat3_get : ∀ (L : List (Exp × List Value)) (_ : ∀ s ∈ L, s.2.length = 3) (k : Nat) (hk : k < L.length) (j : Nat) (_ : j < 3), (L.flatMap (·.2))[k * 3 + j]? = L[k].2[j]?
 | s :: r, h8, 0, _, j, hj => by
  have h := h8 s (by simp)
  simp only [List.flatMap_cons, Nat.zero_mul, Nat.zero_add, List.getElem_cons_zero]; rw [List.getElem?_append_left (by omega)]
 | s :: r, h8, k + 1, hk, j, hj => by
  have h := h8 s (by simp)
  have ih := flat3_get r (fun x hx => h8 x (by simp [hx])) k (by simpa using hk) j hj
  simp only [List.flatMap_cons, List.getElem_cons_succ] at ih ⊢; rw [List.getElem?_append_right (by omega), <- ih]
  congr 1
  omega
theorem node_new {B q : Nat} {w3 : World} {op text : ByteArray} {vals : List Value} (hB : B <= w3.heap.size) (kids : List (Exp × List Value)) (hk : ∀ s ∈ kids, ExpIn (fun b => B <= b /\ b ≠ q) w3 s.1 s.2) (hm : kids.length <= maxLen) :
  ExpIn (fun b => B <= b) ((setAll w3 q 0 vals).alloc (.cells (kids.flatMap (·.2)).toArray 52)) (.mk op text (kids.map (·.1))) [.string op, .string text, .slice (some ⟨w3.heap.size, 0, none⟩) kids.length kids.length] := by
 have hlen : (kids.map (·.1)).length = kids.length := List.length_map ..; have hc := Cells.new (setAll w3 q 0 vals) (kids.flatMap (·.2)).toArray 52; rw [setAll_size] at hc; have h3 : ∀ s ∈ kids, s.2.length = 3 := fun s hs => (hk s hs).len3
 have hn := ExpIn.node (base := B) (w := (setAll w3 q 0 vals).alloc (.cells (kids.flatMap (·.2)).toArray 52)) (o := op) (t := text) (kids := kids.map (·.1)) (b := w3.heap.size) (cap := kids.length) hB hc.lt (fun off => hc.frozen off) (by rw [hlen]; exact Nat.le_refl _) hm (fun k hkl => by
  rw [hlen] at hkl; refine ⟨kids[k].2, fun j u hu => hc.cell _ _ ?_, ?_⟩
  ·have hj : j < 3 := by have := (List.getElem?_eq_some_iff.1 hu).1; rw [h3 _ (List.getElem_mem hkl)] at this; exact this
   simp only [List.getElem?_toArray]; rw [flat3_get kids h3 k hkl j hj]; exact hu
  ·rw [List.getElem_map]
   refine ExpIn.move ?_ (fun b hb hlt => ?_) (fun b hb _ => hb.1) _ _ (hk _ (List.getElem_mem hkl))
   ·rw [World.size_alloc, setAll_size]; omega
   ·rw [Below.heap_alloc _ _ _ (by rw [setAll_size]; exact hlt), setAll_other _ _ _ _ _ hb.2])
 rw [hlen] at hn; exact hn
theorem Prs.sl {w : World} {g : Nat} {lv : Value} {l : List Tok} {k : Nat} (h : Prs w g lv l k) : ∃ a n c, lv = .slice a n c := by
 obtain ⟨a, c, rfl, -⟩ := h.toks.len; exact ⟨_, _, _, rfl⟩
abbrev zeroC : Array Value := #[.string ⟨#[]⟩, .string ⟨#[]⟩, .slice none 0 0]
structure Rs (w0 : World) (q g : Nat) (w : World) : Prop where
 save : Save g w0 w
 res : Cells w q zeroC 52
 qg : q ≠ g
 q0 : w0.heap.size <= q
section
variable {w0 w w' : World} {q g : Nat}
theorem Rs.step (h : Rs w0 q g w) (hs : Save g w w') : Rs w0 q g w' := ⟨h.save.trans hs, hs.cells h.res h.qg, h.qg, h.q0⟩
theorem Rs.below (h : Rs w0 q g w) (hb : Below w.heap.size w w') : Rs w0 q g w' := h.step (Save.of hb)
theorem Rs.start {lv : Value} {l : List Tok} {k : Nat} (h : Prs w0 g lv l k) : Rs w0 w0.heap.size g (w0.alloc (.cells zeroC 52)) :=
 ⟨(Save.refl _ _).alloc _, Cells.new _ _ _, by have := h.box.lt; omega, Nat.le_refl _⟩
theorem Prs.step {lv : Value} {l : List Tok} {k : Nat} (h : Prs w g lv l k) (hb : Below w.heap.size w w') : Prs w' g lv l k := h.go (Save.of hb) (h.box.below hb h.box.lt) h.le
theorem Rs.fin (h : Rs w0 q g w) (vals : List Value) : Save g w0 (setAll w q 0 vals) :=
 ⟨setAll_below q 0 (Nat.zero_le _) vals 0 _ _ h.save.1, fun k hk hn => (setAll_other q vals 0 w k (by have := h.q0; omega)).trans (h.save.2 k hk hn)⟩
theorem Rs.prc {lv : Value} {k e : Int} (h : Rs w0 q g w) (hc : PrC w g lv k e) (vals : List Value) : PrC (setAll w q 0 vals) g lv k e := hc.setAllOther (fun e => h.qg e.symm)
theorem node1 {B : Nat} {op text o t : ByteArray} {a : Option Addr} {n c : Nat} {x : Exp} {vals : List Value} (hB : B <= w.heap.size) (hx : ExpIn (fun b => B <= b /\ b ≠ q) w x (expV o t (.slice a n c))) :
  ExpIn (fun b => B <= b) ((setAll w q 0 vals).alloc (.cells #[.string o, .string t, .slice a n c] 52)) (.mk op text [x]) [.string op, .string text, .slice (some ⟨w.heap.size, 0, none⟩) 1 1] :=
 node_new (q := q) (vals := vals) hB [(x, expV o t (.slice a n c))] (by intro s hs; simp at hs; subst hs; exact hx) (by unfold maxLen; simp)
theorem ExpIn.past {B : Nat} {x : Exp} {cs : List Value} (h : ExpIn (fun b => B <= b) w x cs) {B2 : Nat} (h1 : B2 <= B) (h2 : q < B) : ExpIn (fun b => B2 <= b /\ b ≠ q) w x cs :=
 ExpIn.move (Nat.le_refl _) (fun _ _ _ => rfl) (fun b hb _ => ⟨Nat.le_trans h1 hb, by omega⟩) _ _ h
end
theorem ExpIn.keep {w : World} {q B B2 : Nat} {x : Exp} {cs vals : List Value} (h1 : B2 <= B) (h2 : q < B) (h : ExpIn (fun b => B <= b) w x cs) : ExpIn (fun b => B2 <= b) (setAll w q 0 vals) x cs :=
 ExpIn.move (by rw [setAll_size]; exact Nat.le_refl _) (fun b hb _ => setAll_other _ _ 0 _ b (by omega)) (fun b hb _ => Nat.le_trans h1 hb) _ _ h
theorem andX_ne {g : GotX} {f : Exp -> Nat -> GotX} (h : (andX g f).2.2 ≠ -1) : g.2.2 ≠ -1 := by
 unfold andX at h; split at h
 ·next he => rw [he]; decide
 ·exact h
theorem tight_step (m : Nat) (hT : TightC m) (hP : PostC m) : TightC (m + 1) := by
 intro w g lv l k d h hd hne; obtain ⟨a0, n0, c0, rfl⟩ := h.sl; have hR := Rs.start h; have h1 := h.step ((Below.refl _ w).alloc (Nat.le_refl _) (.cells zeroC 52)); have hkl := h.le; have hsm := h.small; rw [parX] at hne ⊢; have hI1 := is_ok _ g _ l k sBang h1
 by_cases s1 : isS (l.drop k) sBang = true
 ·rw [if_neg (by rw [s1]; simp)] at hne ⊢
  rw [s1] at hI1; rw [if_pos s1] at hne ⊢
  by_cases hd6 : 64 <= d
  ·rw [if_pos hd6]
   clear hne; go_enter Tryz.func217, Tryz.ntmps217; go_wp2_with fail; refine hI1.mono ?_; rintro _ w2 ⟨rfl, hb2⟩; have h2 := h1.step hb2; have hR2 := hR.below hb2; go_wp2_with fail; refine (into_no w2 g _ k d h2.box hd6).mono ?_; rintro _ w3 ⟨rfl, hc9, hs3⟩; have hR9 := hR2.step hs3; clear hs3 hR2 h2 hb2 hR h1 h; have hrl := hR9.res.lt; have HR := Lib.hid (And.intro hR9 hc9); have hres := hR9.res; clear hR9 hc9; have hresc0 := hres.cell 0 _ rfl; have hresf0 := hres.frozen 0; have hresc1 := hres.cell 1 _ rfl; have hresf1 := hres.frozen 1; have hresc2 := hres.cell 2 _ rfl; have hresf2 := hres.frozen 2; clear hres; go_wp2; obtain ⟨hR9, hc9⟩ := HR.out; have hq := ((hR9.res.setI 0 (.string ⟨#[]⟩)).setI 1 (.string ⟨#[]⟩)).setI 2 (.slice none 0 0); have hx := hq.cell 0 _ rfl; have hy := hq.cell 1 _ rfl; have hz := hq.cell 2 _ rfl; refine bodyPost_ret (v := .agg #[.string ⟨#[]⟩, .string ⟨#[]⟩, .slice none 0 0]) (by simp [results, Tryz.results217, go_sem, hx, hy, hz]) rfl ?_
   have hS9 := hR9.fin [.string ⟨#[]⟩, .string ⟨#[]⟩, .slice none 0 0]; have hP9 := hR9.prc hc9 [.string ⟨#[]⟩, .string ⟨#[]⟩, .slice none 0 0]; show XP g (.slice a0 n0 c0) k _ w _ (setAll w3 w.heap.size 0 [.string ⟨#[]⟩, .string ⟨#[]⟩, .slice none 0 0]); exact ⟨hS9, hP9, _, _, _, _, _, rfl, fun h => by cases h⟩
  ·rw [if_neg hd6, List.drop_drop] at hne
   rw [if_neg hd6, List.drop_drop]; have hl1 := isS_some s1; rw [List.length_drop] at hl1; have hr1 := andX_ne hne; simp only [upX] at hr1; have hTT := fun w3 h3 => hT w3 g (.slice a0 n0 c0) l (k + 1) (d + 1) h3 (by omega) hr1
   rw [show ((d + 1 : Nat) : Int) = (d : Int) + 1 by omega] at hTT
   clear hne hr1; generalize parX m .tight (l.drop (k + 1)) (d + 1) = r1 at *; obtain ⟨x1, n1, e1⟩ := r1; go_enter Tryz.func217, Tryz.ntmps217; go_wp2_with fail; refine hI1.mono ?_; rintro _ w2 ⟨rfl, hb2⟩; have h2 := h1.step hb2; have hR2 := hR.below hb2; go_wp2_with fail; refine (into_yes w2 g _ k d h2.box (by omega) (by omega)).mono ?_
   rintro _ w3 ⟨rfl, hc3, hs3⟩; have h3 := h2.go hs3 hc3 (by omega)
   have hR3 := hR2.step hs3; go_wp2_with fail; refine (hTT w3 h3).mono ?_; rintro _ w4 ⟨hs4, hc9, o, t, a, n, c, rfl, hX⟩; have hR9 := hR3.step hs4; have hsz := hR3.res.lt; have hw0 := hR3.save.size; have HX := Lib.hid hX; clear hX hs4 hR3 h3 hs3 hc3 hR2 h2 hb2 hR h1 h hTT; simp only at hc9; have hrl := hR9.res.lt; have HR := Lib.hid (And.intro hR9 hc9); have hres := hR9.res; clear hR9 hc9; have hresc0 := hres.cell 0 _ rfl; have hresf0 := hres.frozen 0; have hresc1 := hres.cell 1 _ rfl; have hresf1 := hres.frozen 1; have hresc2 := hres.cell 2 _ rfl; have hresf2 := hres.frozen 2; clear hres; have hB9 := HR.out.1.save.size; go_wp2; obtain ⟨hR9, hc9⟩ := HR.out; have hq := (((hR9.res.setI 0 (.string sBang)).setI 1 (.string ⟨#[]⟩)).setI 2 (.slice (some ⟨w4.heap.size, 0, none⟩) 1 1)).alloc (.cells #[.string o, .string t, .slice a n c] 52); have hx := hq.cell 0 _ rfl; have hy := hq.cell 1 _ rfl; have hz := hq.cell 2 _ rfl; refine bodyPost_ret (v := .agg #[.string sBang, .string ⟨#[]⟩, .slice (some ⟨w4.heap.size, 0, none⟩) 1 1]) (by simp [results, Tryz.results217, go_sem, hx, hy, hz]) rfl ?_
   have hS9 := (hR9.fin [.string sBang, .string ⟨#[]⟩, .slice (some ⟨w4.heap.size, 0, none⟩) 1 1]).alloc (.cells #[.string o, .string t, .slice a n c] 52); have hP9 := (hR9.prc hc9 [.string sBang, .string ⟨#[]⟩, .slice (some ⟨w4.heap.size, 0, none⟩) 1 1]).alloc (.cells #[.string o, .string t, .slice a n c] 52); show XP g (.slice a0 n0 c0) k _ w _ ((setAll w4 w.heap.size 0 [.string sBang, .string ⟨#[]⟩, .slice (some ⟨w4.heap.size, 0, none⟩) 1 1]).alloc (.cells #[.string o, .string t, .slice a n c] 52))
   by_cases he : e1 = 0
   ·subst he
    rw [show k + 1 + n1 = k + (1 + n1) by omega] at hP9
    rw [andX_ok (by rfl)]
    simp only [upX]; exact ⟨hS9, hP9, _, _, _, _, _, rfl, fun _ => node1 (q := w.heap.size) (op := sBang) (text := ⟨#[]⟩) (vals := [.string sBang, .string ⟨#[]⟩, .slice (some ⟨w4.heap.size, 0, none⟩) 1 1]) hB9 (ExpIn.past (HX.out rfl) hw0 hsz)⟩
   ·rw [show k + 1 + n1 = k + (1 + n1) by omega] at hP9
    rw [andX_bad (by exact he)]
    exact ⟨hS9, hP9, _, _, _, _, _, rfl, fun h => absurd h he⟩
 ·have s1f : isS (l.drop k) sBang = false := by simpa using s1
  rw [s1f] at hI1
  by_cases s2 : isS (l.drop k) sMinus = true
  ·rw [if_neg (by rw [s2]; simp)] at hne ⊢
   rw [if_neg s1] at hne ⊢
   by_cases hd6 : 64 <= d
   ·rw [if_pos hd6]
    clear hne; go_enter Tryz.func217, Tryz.ntmps217; go_wp2_with fail; refine hI1.mono ?_; rintro _ w1 ⟨rfl, hb1⟩; have h11 := h1.step hb1; go_wp2_with fail; refine (is_ok _ g _ l k sMinus h11).mono ?_; rw [s2]; rintro _ w2 ⟨rfl, hb9⟩; have hb2 : Below (w.alloc (.cells zeroC 52)).heap.size (w.alloc (.cells zeroC 52)) w2 := hb1.trans (hb9.mono hb1.size); clear hb9 hb1 h11; have h2 := h1.step hb2; have hR2 := hR.below hb2; go_wp2_with fail; refine (into_no w2 g _ k d h2.box hd6).mono ?_; rintro _ w3 ⟨rfl, hc9, hs3⟩; have hR9 := hR2.step hs3; clear hs3 hR2 h2 hb2 hR h1 h; have hrl := hR9.res.lt; have HR := Lib.hid (And.intro hR9 hc9); have hres := hR9.res; clear hR9 hc9; have hresc0 := hres.cell 0 _ rfl; have hresf0 := hres.frozen 0; have hresc1 := hres.cell 1 _ rfl; have hresf1 := hres.frozen 1; have hresc2 := hres.cell 2 _ rfl; have hresf2 := hres.frozen 2; clear hres; go_wp2; obtain ⟨hR9, hc9⟩ := HR.out; have hq := ((hR9.res.setI 0 (.string ⟨#[]⟩)).setI 1 (.string ⟨#[]⟩)).setI 2 (.slice none 0 0); have hx := hq.cell 0 _ rfl; have hy := hq.cell 1 _ rfl; have hz := hq.cell 2 _ rfl; refine bodyPost_ret (v := .agg #[.string ⟨#[]⟩, .string ⟨#[]⟩, .slice none 0 0]) (by simp [results, Tryz.results217, go_sem, hx, hy, hz]) rfl ?_
    have hS9 := hR9.fin [.string ⟨#[]⟩, .string ⟨#[]⟩, .slice none 0 0]; have hP9 := hR9.prc hc9 [.string ⟨#[]⟩, .string ⟨#[]⟩, .slice none 0 0]; show XP g (.slice a0 n0 c0) k _ w _ (setAll w3 w.heap.size 0 [.string ⟨#[]⟩, .string ⟨#[]⟩, .slice none 0 0]); exact ⟨hS9, hP9, _, _, _, _, _, rfl, fun h => by cases h⟩
   ·rw [if_neg hd6, List.drop_drop] at hne
    rw [if_neg hd6, List.drop_drop]; have hl1 := isS_some s2; rw [List.length_drop] at hl1; have hr1 := andX_ne hne; simp only [upX] at hr1; have hTT := fun w3 h3 => hT w3 g (.slice a0 n0 c0) l (k + 1) (d + 1) h3 (by omega) hr1
    rw [show ((d + 1 : Nat) : Int) = (d : Int) + 1 by omega] at hTT
    clear hne hr1; generalize parX m .tight (l.drop (k + 1)) (d + 1) = r1 at *; obtain ⟨x1, n1, e1⟩ := r1; go_enter Tryz.func217, Tryz.ntmps217; go_wp2_with fail; refine hI1.mono ?_; rintro _ w1 ⟨rfl, hb1⟩; have h11 := h1.step hb1; go_wp2_with fail; refine (is_ok _ g _ l k sMinus h11).mono ?_; rw [s2]; rintro _ w2 ⟨rfl, hb9⟩; have hb2 : Below (w.alloc (.cells zeroC 52)).heap.size (w.alloc (.cells zeroC 52)) w2 := hb1.trans (hb9.mono hb1.size); clear hb9 hb1 h11; have h2 := h1.step hb2; have hR2 := hR.below hb2; go_wp2_with fail; refine (into_yes w2 g _ k d h2.box (by omega) (by omega)).mono ?_
    rintro _ w3 ⟨rfl, hc3, hs3⟩; have h3 := h2.go hs3 hc3 (by omega)
    have hR3 := hR2.step hs3; go_wp2_with fail; refine (hTT w3 h3).mono ?_; rintro _ w4 ⟨hs4, hc9, o, t, a, n, c, rfl, hX⟩; have hR9 := hR3.step hs4; have hsz := hR3.res.lt; have hw0 := hR3.save.size; have HX := Lib.hid hX; clear hX hs4 hR3 h3 hs3 hc3 hR2 h2 hb2 hR h1 h hTT; simp only at hc9; have hrl := hR9.res.lt; have HR := Lib.hid (And.intro hR9 hc9); have hres := hR9.res; clear hR9 hc9; have hresc0 := hres.cell 0 _ rfl; have hresf0 := hres.frozen 0; have hresc1 := hres.cell 1 _ rfl; have hresf1 := hres.frozen 1; have hresc2 := hres.cell 2 _ rfl; have hresf2 := hres.frozen 2; clear hres; have hB9 := HR.out.1.save.size; go_wp2; obtain ⟨hR9, hc9⟩ := HR.out; have hq := (((hR9.res.setI 0 (.string oNeg)).setI 1 (.string ⟨#[]⟩)).setI 2 (.slice (some ⟨w4.heap.size, 0, none⟩) 1 1)).alloc (.cells #[.string o, .string t, .slice a n c] 52); have hx := hq.cell 0 _ rfl; have hy := hq.cell 1 _ rfl; have hz := hq.cell 2 _ rfl; refine bodyPost_ret (v := .agg #[.string oNeg, .string ⟨#[]⟩, .slice (some ⟨w4.heap.size, 0, none⟩) 1 1]) (by simp [results, Tryz.results217, go_sem, hx, hy, hz]) rfl ?_
    have hS9 := (hR9.fin [.string oNeg, .string ⟨#[]⟩, .slice (some ⟨w4.heap.size, 0, none⟩) 1 1]).alloc (.cells #[.string o, .string t, .slice a n c] 52); have hP9 := (hR9.prc hc9 [.string oNeg, .string ⟨#[]⟩, .slice (some ⟨w4.heap.size, 0, none⟩) 1 1]).alloc (.cells #[.string o, .string t, .slice a n c] 52); show XP g (.slice a0 n0 c0) k _ w _ ((setAll w4 w.heap.size 0 [.string oNeg, .string ⟨#[]⟩, .slice (some ⟨w4.heap.size, 0, none⟩) 1 1]).alloc (.cells #[.string o, .string t, .slice a n c] 52))
    by_cases he : e1 = 0
    ·subst he
     rw [show k + 1 + n1 = k + (1 + n1) by omega] at hP9
     rw [andX_ok (by rfl)]
     simp only [upX]; exact ⟨hS9, hP9, _, _, _, _, _, rfl, fun _ => node1 (q := w.heap.size) (op := oNeg) (text := ⟨#[]⟩) (vals := [.string oNeg, .string ⟨#[]⟩, .slice (some ⟨w4.heap.size, 0, none⟩) 1 1]) hB9 (ExpIn.past (HX.out rfl) hw0 hsz)⟩
    ·rw [show k + 1 + n1 = k + (1 + n1) by omega] at hP9
     rw [andX_bad (by exact he)]
     exact ⟨hS9, hP9, _, _, _, _, _, rfl, fun h => absurd h he⟩
  ·have s2f : isS (l.drop k) sMinus = false := by simpa using s2
   rw [if_pos ⟨s1f, s2f⟩] at hne ⊢; have hPP := fun w3 h3 => hP w3 g (.slice a0 n0 c0) l k d h3 hd hne; clear hne; generalize parX m .post (l.drop k) d = r1 at *; obtain ⟨x1, n1, e1⟩ := r1; go_enter Tryz.func217, Tryz.ntmps217; go_wp2_with fail; refine hI1.mono ?_; rintro _ w1 ⟨rfl, hb1⟩; have h11 := h1.step hb1; go_wp2_with fail; refine (is_ok _ g _ l k sMinus h11).mono ?_; rw [s2f]; rintro _ w2 ⟨rfl, hb2⟩; have h2 := h11.step hb2; have hR2 := (hR.below hb1).below hb2; go_wp2_with fail; refine (hPP w2 h2).mono ?_; rintro _ w4 ⟨hs4, hc9, o, t, a, n, c, rfl, hX⟩; have hR9 := hR2.step hs4; have hsz := hR2.res.lt; have hw0 := hR2.save.size; have HX := Lib.hid hX; clear hX hs4 hR2 h2 hb2 h11 hb1 hR h1 h hPP; simp only at hc9; have hrl := hR9.res.lt; have HR := Lib.hid (And.intro hR9 hc9); have hres := hR9.res; clear hR9 hc9; have hresc0 := hres.cell 0 _ rfl; have hresf0 := hres.frozen 0; have hresc1 := hres.cell 1 _ rfl; have hresf1 := hres.frozen 1; have hresc2 := hres.cell 2 _ rfl; have hresf2 := hres.frozen 2; clear hres; go_wp2; obtain ⟨hR9, hc9⟩ := HR.out; have hq := ((hR9.res.setI 0 (.string o)).setI 1 (.string t)).setI 2 (.slice a n c); have hx := hq.cell 0 _ rfl; have hy := hq.cell 1 _ rfl; have hz := hq.cell 2 _ rfl; refine bodyPost_ret (v := .agg #[.string o, .string t, .slice a n c]) (by simp [results, Tryz.results217, go_sem, hx, hy, hz]) rfl ?_
   have hS9 := hR9.fin [.string o, .string t, .slice a n c]; have hP9 := hR9.prc hc9 [.string o, .string t, .slice a n c]; show XP g (.slice a0 n0 c0) k _ w _ (setAll w4 w.heap.size 0 [.string o, .string t, .slice a n c]); exact ⟨hS9, hP9, _, _, _, _, _, rfl, fun he => ExpIn.keep hw0 hsz (HX.out he)⟩
def posOf (w : World) (g : Nat) : Nat := match w.cell? ⟨g, 1, none⟩ with
 | some (.int _ n) => n.toNat
 | _ => 0
theorem PrC.pos {w : World} {g : Nat} {lv : Value} {k : Nat} {e : Int} (h : PrC w g lv (k : Nat) e) : posOf w g = k := by
 unfold posOf; rw [Cells.cell h 1 (.int .i64 (k : Nat)) rfl]; simp
def TL (w0 : World) (q q2 g bp bd bt : Nat) (lv : Value) (l : List Tok) (k d n m : Nat) (R : GotX) (wr : World) : Prop :=
  Rs w0 q g wr /\ TBox wr g bp bd bt d /\ ∃ o t a nn c, Cells wr q2 #[.string o, .string t, .slice a nn c] 52 /\
    ((∃ j x k', j <= m /\ Prs wr g lv l k' /\ k <= k' /\ R = upX (k' - k) (parX j (.tloop n x) (l.drop k') d) /\ ExpIn (fun b => w0.heap.size <= b /\ b ≠ q /\ b ≠ q2) wr x (expV o t (.slice a nn c))) \/
     (∃ (k' : Nat) (e : Int), PrC wr g lv (k' : Nat) e /\ e ≠ 0 /\ k <= k' /\ R = (zeroX, k' - k, e)))
theorem upX_upX (a b : Nat) (g : GotX) : upX a (upX b g) = upX (a + b) g := by unfold upX; simp only [Nat.add_assoc]
theorem node_at {P : Nat -> Prop} {b : Nat} {W : World} {op text : ByteArray} (kids : List (Exp × List Value)) (hc : Cells W b (kids.flatMap (·.2)).toArray 52) (hP : P b) (hk : ∀ s ∈ kids, ExpIn P W s.1 s.2) (hm : kids.length <= maxLen) :
  ExpIn P W (.mk op text (kids.map (·.1))) [.string op, .string text, .slice (some ⟨b, 0, none⟩) kids.length kids.length] := by
 have hlen : (kids.map (·.1)).length = kids.length := List.length_map ..; have h3 : ∀ s ∈ kids, s.2.length = 3 := fun s hs => (hk s hs).len3; simp only [ExpIn]; refine ⟨some ⟨b, 0, none⟩, kids.length, by rw [hlen], by rw [hlen]; exact Nat.le_refl _, hm, (fun h => by cases h), fun x hx _ => ?_⟩
 cases hx
 refine ⟨rfl, ⟨hc.lt, hP, fun off => hc.frozen off⟩, ExpsIn.make _ 0 (fun k hkl => ?_)⟩; rw [hlen] at hkl; refine ⟨kids[k].2, fun j u hu => ?_, ?_⟩
 ·rw [Nat.zero_add]
  refine hc.cell _ _ ?_; have hj : j < 3 := by have := (List.getElem?_eq_some_iff.1 hu).1; rw [h3 _ (List.getElem_mem hkl)] at this; exact this
  simp only [List.getElem?_toArray]; rw [flat3_get kids h3 k hkl j hj]; exact hu
 ·rw [List.getElem_map]
  exact hk _ (List.getElem_mem hkl)
theorem Save.setAllNew {w w' : World} {g q : Nat} (h : Save g w w') (hq : w.heap.size <= q) (vals : List Value) : Save g w (setAll w' q 0 vals) :=
 ⟨setAll_below q 0 (Nat.zero_le _) vals 0 _ _ h.1, fun k hk hn => (setAll_other q vals 0 w' k (by omega)).trans (h.2 k hk hn)⟩
theorem term_step (m : Nat) (hT : TightC m) (hTm : ∀ j, j <= m -> TermC j) : TermC (m + 1) := by
 intro w g lv l k d n bp bd bt h hB hd hn1 hn7 hne; obtain ⟨a0, n0, c0, rfl⟩ := h.sl; have hR := Rs.start h; have h1 := h.step ((Below.refl _ w).alloc (Nat.le_refl _) (.cells zeroC 52)); have hB1 := hB.save ((Save.refl g w).alloc (.cells zeroC 52)); have hkl := h.le; have hsm := h.small; have hgw := h.box.lt; have H0 := Lib.hid (And.intro h hB); rw [parX] at hne ⊢; have hpl := hB1.p.lt; have hdl := hB1.d.lt; have htl := hB1.t.lt; have hbp := hB1.p.cell 0 _ rfl; have hbd := hB1.d.cell 0 _ rfl; have hbt := hB1.t.cell 0 _ rfl
 by_cases h7 : n = 7
 ·subst h7
  rw [if_pos (by omega)] at hne ⊢
  have hTT := fun w3 h3 => hT w3 g (.slice a0 n0 c0) l k d h3 hd hne; clear hne; generalize parX m .tight (l.drop k) d = r1 at *; obtain ⟨x1, n1, e1⟩ := r1; go_enter Tryz.func216, Tryz.ntmps216; go_wp2_with fail; refine (hTT _ h1).mono ?_; rintro _ w4 ⟨hs4, hc9, o, t, a, n, c, rfl, hX⟩; have hR9 := hR.step hs4; have hsz : w.heap.size < (w.alloc (.cells zeroC 52)).heap.size := by simp
  have hw0 : w.heap.size <= (w.alloc (.cells zeroC 52)).heap.size := by simp
  have HX := Lib.hid hX; clear hX hs4 hR h1 h hTT hB hB1 hbp hbd hbt; simp only at hc9; have hrl := hR9.res.lt; have HR := Lib.hid (And.intro hR9 hc9); have hres := hR9.res; clear hR9 hc9; have hresc0 := hres.cell 0 _ rfl; have hresf0 := hres.frozen 0; have hresc1 := hres.cell 1 _ rfl; have hresf1 := hres.frozen 1; have hresc2 := hres.cell 2 _ rfl; have hresf2 := hres.frozen 2; clear hres; go_wp2; obtain ⟨hR9, hc9⟩ := HR.out; have hq := ((hR9.res.setI 0 (.string o)).setI 1 (.string t)).setI 2 (.slice a n c); have hx := hq.cell 0 _ rfl; have hy := hq.cell 1 _ rfl; have hz := hq.cell 2 _ rfl; refine bodyPost_ret (v := .agg #[.string o, .string t, .slice a n c]) (by simp [results, Tryz.results216, go_sem, hx, hy, hz]) rfl ?_
  have hS9 := hR9.fin [.string o, .string t, .slice a n c]; have hP9 := hR9.prc hc9 [.string o, .string t, .slice a n c]; show XP g (.slice a0 n0 c0) k _ w _ (setAll w4 w.heap.size 0 [.string o, .string t, .slice a n c]); exact ⟨hS9, hP9, _, _, _, _, _, rfl, fun he => ExpIn.keep hw0 hsz (HX.out he)⟩
 ·have hn6 : n < 7 := by omega
  have hnb : ((n : Int) == 7) = false := by rw [beq_eq_false_iff_ne]; omega
  rw [if_neg (by omega)] at hne ⊢
  have hr1 := andX_ne hne; have hle1 : (parX m (.term (n + 1)) (l.drop k) d).2.1 <= (l.drop k).length := (parX_le m (.term (n + 1)) (l.drop k) d (by simp only [Nt.okX]; omega) hr1).1
  have hTT := fun w3 h3 hb3 => hTm m (Nat.le_refl _) w3 g (.slice a0 n0 c0) l k d (n + 1) bp bd bt h3 hb3 hd (by omega) (by omega) hr1
  rw [show ((n + 1 : Nat) : Int) = (n : Int) + 1 by omega] at hTT
  obtain ⟨R, hRR⟩ : ∃ R, (andX (parX m (.term (n + 1)) (l.drop k) d) fun a k2 => upX k2 (parX m (.tloop n a) ((l.drop k).drop k2) d)) = R := ⟨_, rfl⟩; rw [hRR] at hne ⊢; have HRR := Lib.hid hRR; clear hRR hr1 h7; generalize parX m (.term (n + 1)) (l.drop k) d = r1 at *; obtain ⟨x1, n1, e1⟩ := r1; go_enter Tryz.func216, Tryz.ntmps216; go_wp2_with fail; refine (hTT _ h1 hB1).mono ?_; rintro _ w4 ⟨hs4, hc4, o, t, a, nn, c, rfl, hX⟩; simp only at hc4; have hR4 := hR.step hs4; have hB4 := hB1.save hs4; have hz4 := hs4.size; simp only [World.size_alloc] at hz4; have hR5 := hR4.below ((Below.refl _ w4).alloc (Nat.le_refl _) (.cells #[.string o, .string t, .slice a nn c] 52)); have hB5 := hB4.save ((Save.refl g w4).alloc (.cells #[.string o, .string t, .slice a nn c] 52)); have hc5 := hc4.alloc (.cells #[.string o, .string t, .slice a nn c] 52); have hq5 := Cells.new w4 #[.string o, .string t, .slice a nn c] 52
  have hTL : TL w w.heap.size w4.heap.size g bp bd bt (.slice a0 n0 c0) l k d n m R (w4.alloc (.cells #[.string o, .string t, .slice a nn c] 52)) := by
   refine ⟨hR5, hB5, o, t, a, nn, c, hq5, ?_⟩
   by_cases he : e1 = 0
   ·subst he
    left
    have hle := hle1
    (try simp only at hle)
    rw [List.length_drop] at hle; refine ⟨m, x1, k + n1, Nat.le_refl _, (h1.go hs4 hc4 (by omega)).step ((Below.refl _ w4).alloc (Nat.le_refl _) _), by omega, ?_, ?_⟩
    ·rw [<- HRR.out, andX_ok (by rfl)]
     simp only [List.drop_drop]; rw [show k + n1 - k = n1 by omega]
    ·refine ExpIn.move (by simp) (fun b _ hlt => Below.heap_alloc _ _ _ hlt) (fun b hb hlt => ?_) _ _ (hX rfl)
     simp only [World.size_alloc] at hb; exact ⟨by omega, by omega, by omega⟩
   ·right
    exact ⟨k + n1, e1, hc5, he, by omega, by rw [<- HRR.out, andX_bad (by exact he), show k + n1 - k = n1 by omega]⟩
  have HTL := Lib.hid hTL; clear hTL hX hq5 hc5 hB5 hR5 hB4 hR4 hc4 hs4 hB1 hR h1 h hTT hB hbp hbd hbt hle1 HRR; have hq2 : w.heap.size < w4.heap.size := by omega
  go_wp2_with fail; go_loopw [7, 8] (fun _ _ wr => TL w w.heap.size w4.heap.size g bp bd bt (.slice a0 n0 c0) l k d n m R wr) (fun _ _ wr => l.length + 1 - posOf wr g)
  case atStart => exact HTL.out
  case round =>
   clear HTL; obtain ⟨hR5, hB5, o5, t5, a5, nn5, c5, hq5, hst⟩ := hrel; have hpl := hB5.p.lt; have hdl := hB5.d.lt; have htl := hB5.t.lt; have hbp := hB5.p.cell 0 _ rfl; have hbd := hB5.d.cell 0 _ rfl; have hbt := hB5.t.cell 0 _ rfl; have hql := hq5.lt; rcases hst with ⟨j, x, k', hj, h5, hkk, hRe, hX⟩ | ⟨k', e, hc5, he, hkk, hRe⟩
   ·cases hil : isL (l.drop k') n with
    | none =>
     have hrn : ((rkN (l.drop k') : Int) == (n : Int)) = false := by
      rw [beq_eq_false_iff_ne]; intro e; obtain ⟨o, ho⟩ := (rkN_iff hn1 (by omega)).1 e
      rw [hil] at ho; cases ho
     have hrk := rank_ok wr g _ l k' h5
     have hRx : R = (x, k' - k, 0) := by
      rw [hRe]
      cases j with
      | zero => rw [hRe] at hne; exact absurd rfl hne
      | succ j => rw [parX, hil]; rfl
     generalize rkN (l.drop k') = rk at *; go_wp2_with fail; refine hrk.mono ?_; rintro _ _ ⟨rfl, nd, rfl⟩; have hR9 := hR5.step ((Save.refl g wr).drewN nd); have hc9 := h5.box.drewN nd; have hq6 := hq5.drewN nd; have HX := Lib.hid hX; clear hR5 hB5 h5 hbp hbd hbt hq5 hX hRe hrk; have hrl := hR9.res.lt; have HR := Lib.hid (And.intro hR9 hc9); have hres := hR9.res; clear hR9 hc9; have hresc0 := hres.cell 0 _ rfl; have hresf0 := hres.frozen 0; have hresc1 := hres.cell 1 _ rfl; have hresf1 := hres.frozen 1; have hresc2 := hres.cell 2 _ rfl; have hresf2 := hres.frozen 2; clear hres; have hq6c0 := hq6.cell 0 _ rfl; have hq6f0 := hq6.frozen 0; have hq6c1 := hq6.cell 1 _ rfl; have hq6f1 := hq6.frozen 1; have hq6c2 := hq6.cell 2 _ rfl; have hq6f2 := hq6.frozen 2; go_wp2; obtain ⟨hR9, hc9⟩ := HR.out; have hq := ((hR9.res.setI 0 (.string o5)).setI 1 (.string t5)).setI 2 (.slice a5 nn5 c5); have hx := hq.cell 0 _ rfl; have hy := hq.cell 1 _ rfl; have hz := hq.cell 2 _ rfl; refine bodyPost_ret (v := .agg #[.string o5, .string t5, .slice a5 nn5 c5]) (by simp [results, Tryz.results216, go_sem, hx, hy, hz]) rfl ?_
     have hS9 := hR9.fin [.string o5, .string t5, .slice a5 nn5 c5]; have hP9 := hR9.prc hc9 [.string o5, .string t5, .slice a5 nn5 c5]; show XP g (.slice a0 n0 c0) k _ w _ (setAll (wr.drewN nd) w.heap.size 0 [.string o5, .string t5, .slice a5 nn5 c5]); rw [hRx]; have hkx : k + (k' - k) = k' := by omega
     exact ⟨hS9, by show PrC _ g _ ((k + (k' - k) : Nat)) 0; rw [hkx]; exact hP9, _, _, _, _, _, rfl, fun _ => ExpIn.move (P := fun b => w.heap.size <= b /\ b ≠ w.heap.size /\ b ≠ w4.heap.size) (by rw [setAll_size]; exact Nat.le_refl _) (fun b hb _ => setAll_other _ _ 0 _ b hb.2.1) (fun b hb _ => hb.1) x _ (ExpIn.below (below_draws _ _ _) x _ HX.out)⟩
    | some op =>
     have hrn : ((rkN (l.drop k') : Int) == (n : Int)) = true := by
      rw [beq_iff_eq]; exact (rkN_iff hn1 (by omega)).2 ⟨op, hil⟩
     have hrk := rank_ok wr g _ l k' h5; have hk1 : k' < l.length := by have := isL_some hil; rw [List.length_drop] at this; omega
     obtain ⟨tk, tq, htk, hop⟩ := isL_text hil
     have htk2 : l[k'] = tk := by
      rw [List.drop_eq_getElem_cons hk1] at htk; exact (List.cons.inj htk).1
     obtain ⟨tb, tof, hte, htb, c0', c1', c2'⟩ := ToksAt.get h5.toks hk1; rw [htk2, hop] at c1'; subst hte
     cases j with
     | zero => rw [hRe] at hne; exact absurd rfl hne
     | succ j =>
     rw [parX, hil] at hRe; simp only at hRe; rw [List.drop_drop] at hRe
     have hnx : (andX (upX 1 (parX j (.term (n + 1)) (l.drop (k' + 1)) d)) fun b k2 => upX k2 (parX j (.tloop n (.mk op oNo [x, b])) ((l.drop k').drop k2) d)).2.2 ≠ -1 := by
      rw [hRe] at hne; exact hne
     have hr2 : (parX j (.term (n + 1)) (l.drop (k' + 1)) d).2.2 ≠ -1 := andX_ne (g := upX 1 (parX j (.term (n + 1)) (l.drop (k' + 1)) d)) hnx; clear hnx; have hle2 : (parX j (.term (n + 1)) (l.drop (k' + 1)) d).2.1 <= (l.drop (k' + 1)).length := (parX_le j (.term (n + 1)) (l.drop (k' + 1)) d (by simp only [Nt.okX]; omega) hr2).1
     rw [List.length_drop] at hle2; have hTT := fun w3 h3 hb3 => hTm j (by omega) w3 g (.slice (some ⟨tb, tof, none⟩) n0 c0) l (k' + 1) d (n + 1) bp bd bt h3 hb3 hd (by omega) (by omega) hr2
     rw [show ((n + 1 : Nat) : Int) = (n : Int) + 1 by omega] at hTT
     generalize parX j (.term (n + 1)) (l.drop (k' + 1)) d = r2 at *; obtain ⟨x2, n2, e2⟩ := r2; have HRe := Lib.hid hRe; clear hRe; generalize rkN (l.drop k') = rk at *; go_wp2_with fail; refine hrk.mono ?_; rintro _ _ ⟨rfl, nd, rfl⟩; have hgl := h5.box.lt; have HPO := Lib.hid h5.box.pos; have hbox := h5.box
     have hll : ((n0 : Nat) : Int) = (l.length : Int) := by
      obtain ⟨a9, c9, he9, -⟩ := h5.toks.len; cases he9; rfl
     have hnp := hB5.np; have hnd := hB5.nd; have hnt := hB5.nt; have hqg := hR5.qg; have hq0 := hR5.res.lt; have hboxc0 := hbox.cell 0 _ rfl; have hboxf0 := hbox.frozen 0; have hboxc1 := hbox.cell 1 _ rfl; have hboxf1 := hbox.frozen 1; have hboxc2 := hbox.cell 2 _ rfl; have hboxf2 := hbox.frozen 2; have HX := Lib.hid hX; clear hX; go_wp2_with fail; go_quiet (fail)
     go_wp2_with fail; have hs6 : Save g wr ((wr.drewN (nd + nq)).setCell ⟨g, 1, none⟩ (.int .i64 ((k' : Int) + 1))) := ((Save.refl g wr).drewN _).set 1 _; have hc6 : PrC ((wr.drewN (nd + nq)).setCell ⟨g, 1, none⟩ (.int .i64 ((k' : Int) + 1))) g (.slice (some ⟨tb, tof, none⟩) n0 c0) ((k' + 1 : Nat)) 0 := (h5.box.drewN (nd + nq)).setI 1 (.int .i64 ((k' : Int) + 1)); generalize (wr.drewN (nd + nq)).setCell ⟨g, 1, none⟩ (.int .i64 ((k' : Int) + 1)) = w6 at hs6 hc6 ⊢; refine (hTT w6 (h5.go hs6 hc6 hk1) (hB5.save hs6)).mono ?_; rintro _ w7 ⟨hs7, hc7, o2, t2, a2, m2, c2, rfl, hX2⟩; simp only at hc7 hX2; have hs57 := hs6.trans hs7; have hR7 := hR5.step hs57; have hB7 := hB5.save hs57; have hq7 := hs57.cells hq5 (by omega)
     have hz6 := hs6.size; have hz7 := hs7.size
     have hP7 : e2 = 0 -> Prs w7 g (.slice (some ⟨tb, tof, none⟩) n0 c0) l (k' + 1 + n2) := fun he => by
      subst he; exact h5.go hs57 hc7 (by omega)
     have hX7 : ExpIn (fun b => w.heap.size <= b /\ b ≠ w.heap.size /\ b ≠ w4.heap.size) w7 x (expV o5 t5 (.slice a5 nn5 c5)) :=
      ExpIn.move hs57.size (fun b hb hlt => hs57.2 b hlt (by omega)) (fun b hb _ => hb) x _ HX.out
     have H7 := Lib.hid (And.intro hR7 (And.intro hB7 (And.intro hc7 (And.intro hP7 (And.intro hX7 hX2))))); clear hR5 hB5 hs57 hs6 hs7 hc6 hc7 hP7 hX7 hX2 HX hbox hboxc0 hboxc1 hboxc2 hboxf0 hboxf1 hboxf2 hq5 hTT hrk c0' c1' c2' hbp hbd hbt hR7 hB7 h5; have hz2 : w4.heap.size < w7.heap.size := by omega
     have hq7c0 := hq7.cell 0 _ rfl; have hq7f0 := hq7.frozen 0; have hq7c1 := hq7.cell 1 _ rfl; have hq7f1 := hq7.frozen 1; have hq7c2 := hq7.cell 2 _ rfl; have hq7f2 := hq7.frozen 2; go_wp2_with fail; obtain ⟨hR7, hB7, hc7, hP7, hX7, hX2⟩ := H7.out; obtain ⟨h, hB⟩ := H0.out; have hSv := (hR7.save.setAllNew (q := w4.heap.size) (by omega) [.string op, .string ⟨#[]⟩, .slice (some ⟨w7.heap.size + 1, 0, none⟩) 2 2])
     have hc8 : PrC (setAll w7 w4.heap.size 0 [.string op, .string ⟨#[]⟩, .slice (some ⟨w7.heap.size + 1, 0, none⟩) 2 2]) g _ _ _ := hc7.setAllOther (by omega)
     have hq8 : Cells (setAll w7 w4.heap.size 0 [.string op, .string ⟨#[]⟩, .slice (some ⟨w7.heap.size + 1, 0, none⟩) 2 2]) w4.heap.size _ _ := hq7.put [.string op, .string ⟨#[]⟩, .slice (some ⟨w7.heap.size + 1, 0, none⟩) 2 2] 0; have hr8 : Cells (setAll w7 w4.heap.size 0 [.string op, .string ⟨#[]⟩, .slice (some ⟨w7.heap.size + 1, 0, none⟩) 2 2]) w.heap.size _ _ := hR7.res.setAllOther (by omega)
     have hsz8 := setAll_size w4.heap.size [.string op, .string ⟨#[]⟩, .slice (some ⟨w7.heap.size + 1, 0, none⟩) 2 2] 0 w7; have hot8 := fun b (hb : b ≠ w4.heap.size) => setAll_other w4.heap.size [.string op, .string ⟨#[]⟩, .slice (some ⟨w7.heap.size + 1, 0, none⟩) 2 2] 0 w7 b hb
     show TL w w.heap.size w4.heap.size g bp bd bt _ l k d n m R (((setAll w7 w4.heap.size 0 [.string op, .string ⟨#[]⟩, .slice (some ⟨w7.heap.size + 1, 0, none⟩) 2 2]).alloc (.cells #[.string o2, .string t2, .slice a2 m2 c2] 52)).alloc (.cells #[.string o5, .string t5, .slice a5 nn5 c5, .string o2, .string t2, .slice a2 m2 c2] 52)) /\
      l.length + 1 - posOf (((setAll w7 w4.heap.size 0 [.string op, .string ⟨#[]⟩, .slice (some ⟨w7.heap.size + 1, 0, none⟩) 2 2]).alloc (.cells #[.string o2, .string t2, .slice a2 m2 c2] 52)).alloc (.cells #[.string o5, .string t5, .slice a5 nn5 c5, .string o2, .string t2, .slice a2 m2 c2] 52)) g < l.length + 1 - posOf wr g
     generalize setAll w7 w4.heap.size 0 [.string op, .string ⟨#[]⟩, .slice (some ⟨w7.heap.size + 1, 0, none⟩) 2 2] = w8 at hSv hc8 hq8 hr8 hsz8 hot8 ⊢; have hSv9 := (hSv.alloc (.cells #[.string o2, .string t2, .slice a2 m2 c2] 52)).alloc (.cells #[.string o5, .string t5, .slice a5 nn5 c5, .string o2, .string t2, .slice a2 m2 c2] 52); have hc9 := (hc8.alloc (.cells #[.string o2, .string t2, .slice a2 m2 c2] 52)).alloc (.cells #[.string o5, .string t5, .slice a5 nn5 c5, .string o2, .string t2, .slice a2 m2 c2] 52); have hq9 := (hq8.alloc (.cells #[.string o2, .string t2, .slice a2 m2 c2] 52)).alloc (.cells #[.string o5, .string t5, .slice a5 nn5 c5, .string o2, .string t2, .slice a2 m2 c2] 52); have hr9 := (hr8.alloc (.cells #[.string o2, .string t2, .slice a2 m2 c2] 52)).alloc (.cells #[.string o5, .string t5, .slice a5 nn5 c5, .string o2, .string t2, .slice a2 m2 c2] 52); have hk9 := Cells.new (w8.alloc (.cells #[.string o2, .string t2, .slice a2 m2 c2] 52)) #[.string o5, .string t5, .slice a5 nn5 c5, .string o2, .string t2, .slice a2 m2 c2] 52; rw [World.size_alloc, hsz8] at hk9
     have hot9 : ∀ b, b ≠ w4.heap.size -> b < w7.heap.size -> ((w8.alloc (.cells #[.string o2, .string t2, .slice a2 m2 c2] 52)).alloc (.cells #[.string o5, .string t5, .slice a5 nn5 c5, .string o2, .string t2, .slice a2 m2 c2] 52)).heap[b]? = w7.heap[b]? := fun b hb hlt => by
      rw [Below.heap_alloc _ _ _ (by rw [World.size_alloc]; omega), Below.heap_alloc _ _ _ (by omega), hot8 b hb]
     have hs9 : ((w8.alloc (.cells #[.string o2, .string t2, .slice a2 m2 c2] 52)).alloc (.cells #[.string o5, .string t5, .slice a5 nn5 c5, .string o2, .string t2, .slice a2 m2 c2] 52)).heap.size = w7.heap.size + 2 := by
      rw [World.size_alloc, World.size_alloc, hsz8]
     generalize (w8.alloc (.cells #[.string o2, .string t2, .slice a2 m2 c2] 52)).alloc (.cells #[.string o5, .string t5, .slice a5 nn5 c5, .string o2, .string t2, .slice a2 m2 c2] 52) = w9 at hSv9 hc9 hq9 hr9 hk9 hot9 hs9 ⊢; have hHRe := HRe.out; constructor
     ·refine ⟨⟨hSv9, hr9, hqg, Nat.le_refl _⟩, hB.save hSv9, op, ⟨#[]⟩, _, _, _, hq9, ?_⟩
      by_cases he : e2 = 0
      ·subst he
       left
       refine ⟨j, .mk op oNo [x, x2], k' + 1 + n2, by omega, h.go hSv9 hc9 (by omega), by omega, ?_, ?_⟩
       ·rw [hHRe, andX_ok (by rfl)]
        simp only [upX_upX, upX, List.drop_drop]; rw [show k' + (1 + n2) = k' + 1 + n2 by omega]
        exact Prod.ext rfl (Prod.ext (by simp only; omega) rfl)
       ·refine node_at (P := fun b => w.heap.size <= b /\ b ≠ w.heap.size /\ b ≠ w4.heap.size) [(x, expV o5 t5 (.slice a5 nn5 c5)), (x2, expV o2 t2 (.slice a2 m2 c2))] hk9 ⟨by omega, by omega, by omega⟩ (fun s hs => ?_) (by unfold maxLen; simp)
        simp at hs
        rcases hs with rfl | rfl
        ·exact ExpIn.move (by omega) (fun b hb hlt => hot9 b hb.2.2 hlt) (fun b hb _ => hb) x _ hX7
        ·exact ExpIn.move (by omega) (fun b hb hlt => hot9 b (by omega) hlt) (fun b hb _ => ⟨by omega, by omega, by omega⟩) x2 _ (hX2 rfl)
      ·right
       refine ⟨k' + 1 + n2, e2, hc9, he, by omega, ?_⟩
       rw [hHRe, andX_bad (by exact he)]
       simp only [upX]; rw [show k' - k + (1 + n2) = k' + 1 + n2 - k by omega]
     ·rw [PrC.pos hc9, HPO.out]
      omega
   ·have hrk := rank_no wr g _ _ e hc5 he ⟨_, _, _, rfl⟩
    have hn0 : ((0 : Int) == (n : Int)) = false := by rw [beq_eq_false_iff_ne]; omega
    go_wp2_with fail; refine hrk.mono ?_; rintro _ _ ⟨rfl, nd, rfl⟩; have hR9 := hR5.step ((Save.refl g wr).drewN nd); have hc9 := hc5.drewN nd; have hq6 := hq5.drewN nd; clear hR5 hB5 hc5 hbp hbd hbt hq5; have hrl := hR9.res.lt; have HR := Lib.hid (And.intro hR9 hc9); have hres := hR9.res; clear hR9 hc9; have hresc0 := hres.cell 0 _ rfl; have hresf0 := hres.frozen 0; have hresc1 := hres.cell 1 _ rfl; have hresf1 := hres.frozen 1; have hresc2 := hres.cell 2 _ rfl; have hresf2 := hres.frozen 2; clear hres; have hq6c0 := hq6.cell 0 _ rfl; have hq6f0 := hq6.frozen 0; have hq6c1 := hq6.cell 1 _ rfl; have hq6f1 := hq6.frozen 1; have hq6c2 := hq6.cell 2 _ rfl; have hq6f2 := hq6.frozen 2; go_wp2; obtain ⟨hR9, hc9⟩ := HR.out; have hq := ((hR9.res.setI 0 (.string o5)).setI 1 (.string t5)).setI 2 (.slice a5 nn5 c5); have hx := hq.cell 0 _ rfl; have hy := hq.cell 1 _ rfl; have hz := hq.cell 2 _ rfl; refine bodyPost_ret (v := .agg #[.string o5, .string t5, .slice a5 nn5 c5]) (by simp [results, Tryz.results216, go_sem, hx, hy, hz]) rfl ?_
    have hS9 := hR9.fin [.string o5, .string t5, .slice a5 nn5 c5]; have hP9 := hR9.prc hc9 [.string o5, .string t5, .slice a5 nn5 c5]; show XP g (.slice a0 n0 c0) k _ w _ (setAll (wr.drewN nd) w.heap.size 0 [.string o5, .string t5, .slice a5 nn5 c5]); rw [hRe]; have hkx : k + (k' - k) = k' := by omega
    exact ⟨hS9, by show PrC _ g _ ((k + (k' - k) : Nat)) e; rw [hkx]; exact hP9, _, _, _, _, _, rfl, fun h => absurd h he⟩
end Go.Proofs.YtbcdaaobbebooaaGreatDoor
