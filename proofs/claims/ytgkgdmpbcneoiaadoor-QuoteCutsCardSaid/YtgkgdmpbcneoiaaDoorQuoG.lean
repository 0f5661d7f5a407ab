/- The walks of Scan and Parse (layer 7). -/
import Derived.Test.YtgkgdmpbcneoiaaDoorQuoF
import Derived.Deep.RegionHeld3
namespace Go.Proofs.YtgkgdmpbcneoiaaDoor
open Go.RowKit Go.Tab Go.Shelf

/-- What Scan hands back. -/
def scanV (q : PartR) : Value := .tuple #[.string (strOf (un q.1)), .int .i64 (q.2.1 : Int), .int .i64 (q.2.2 : Int)]


/-- The three results' boxes, and the reader, newly made. -/
def mk3 (w : World) : World := ((w.alloc (.cells #[.string ⟨#[]⟩] 9)).alloc (.cells #[.int .i64 0] 3)).alloc (.cells #[.int .i64 0] 23)
def mkR (w : World) (s : ByteArray) : World := (mk3 w).alloc (.cells #[.string s, .int .i64 0, .pointer none, .slice none 0 0] 45)
theorem mk3_size (w : World) : (mk3 w).heap.size = w.heap.size + 3 := by simp [mk3]
theorem mkR_below (w : World) (s : ByteArray) : Below w.heap.size w (mkR w s) := by
  unfold mkR mk3
  exact ((((Below.refl _ w).alloc (Nat.le_refl _) _).alloc (by simp) _).alloc (by simp; omega) _).alloc (by simp; omega) _
theorem mkR_box (w : World) (s : ByteArray) : Cells (mkR w s) w.heap.size #[.string ⟨#[]⟩] 9 ∧ Cells (mkR w s) (w.heap.size + 1) #[.int .i64 0] 3 ∧ Cells (mkR w s) (w.heap.size + 2) #[.int .i64 0] 23 := by
  unfold mkR mk3
  have h0 := Cells.new w #[.string ⟨#[]⟩] 9
  have h1 := Cells.new (w.alloc (.cells #[.string ⟨#[]⟩] 9)) #[.int .i64 0] 3
  have h2 := Cells.new ((w.alloc (.cells #[.string ⟨#[]⟩] 9)).alloc (.cells #[.int .i64 0] 3)) #[.int .i64 0] 23
  simp only [World.size_alloc] at h1 h2
  exact ⟨((h0.alloc _).alloc _).alloc _, (h1.alloc _).alloc _, h2.alloc _⟩
theorem mkR_rdr (w : World) (s : ByteArray) : RdrAt (mkR w s) (w.heap.size + 3) s 0 [] := by
  have h := Cells.new (mk3 w) #[.string s, .int .i64 0, .pointer none, .slice none 0 0] 45
  rw [mk3_size] at h
  exact ⟨_, ⟨h, .inl rfl, _, rfl, OwnOf.nil⟩, rfl, rfl, rfl⟩

/-- Where the reader in block g stands. -/
def atOf (w : World) (g : Nat) : Nat := match w.cell? ⟨g, 1, none⟩ with
  | some (.int _ n) => n.toNat
  | _ => 0
theorem RdrAt.atOf {w : World} {g : Nat} {s : ByteArray} {k : Nat} {l : List UInt8} (h : RdrAt w g s k l) : YtgkgdmpbcneoiaaDoor.atOf w g = k := by
  obtain ⟨cs, h1, _, _, h7⟩ := h
  unfold YtgkgdmpbcneoiaaDoor.atOf
  rw [h1.cells.cell 1 _ h7]
  simp
theorem un_length (l : List Nat) : (un l).length = l.length := by simp [un]

set_option maxHeartbeats 4000000 in
set_option maxRecDepth 100000 in
theorem Scan_any (s : ByteArray) (w : World) (hs : s.size ≤ 100000) (hT : Tab w) :
    Calls Tryd.prog 9 #[.string s] w fun e w' => e = .returned (scanV (scanQ (bs s))) ∧ Below w.heap.size w w' := by
  have hmf : ∀ (fn : Fn) (first cap : Array Value) (w : World), (Instr.makeFunc fn first cap).run Tryd.prog w = .ok (.func fn first cap) w := fun _ _ _ _ => rfl
  have hpos := hT.pos
  have hR := mkR_rdr w s
  obtain ⟨x0, x1, x2⟩ := mkR_box w s
  have hB := mkR_below w s
  have hTR := hT.below hB hpos
  cases hq : bs s with
  | nil =>
    have hN := rnext_nil (mkR w s) _ s 0 [] hR (Nat.zero_le _) (by simpa using hq) (by omega)
    have HC : Hid (scanQ (bs s) = errR 2) := Lib.hid (by rw [hq]; rfl)
    rw [← hq]
    unfold mkR mk3 at hN
    clear hq
    go_enter_defers Tryd.func9, Tryd.ntmps9
    go_wp2_with fail
    refine hN.mono ?_
    rintro e w1 ⟨rfl, hb1⟩
    have y0 := x0.below hb1 (by omega)
    have y1 := x1.below hb1 (by omega)
    have y2 := x2.below hb1 (by omega)
    go_wp2
    refine leaves_cons (f := 15) (args := #[.pointer (some ⟨w.heap.size, 0, none⟩), .pointer (some ⟨w.heap.size + 1, 0, none⟩), .pointer (some ⟨w.heap.size + 2, 0, none⟩)]) (by simp) (by simp [go_sem]) ?_
    refine (catch_panicking w.heap.size (w.heap.size + 1) (w.heap.size + 2) _ _ _ _ [] _ y0 y1 y2 (by omega) (by omega)).mono ?_
    rintro e u' w'' ⟨rfl, rfl, r0, r1, r2, hbl⟩
    have q0 := r0.cell 0 _ rfl
    have q1 := r1.cell 0 _ rfl
    have q2 := r2.cell 0 _ rfl
    clear r0 r1 r2
    simp [Leaves, settle, results, Tryd.results9, go_sem, q0, q1, q2]
    exact ⟨by rw [HC.out]; rfl, (hB.trans (hb1.mono (by omega))).trans hbl⟩
  | cons c r =>
    have hN := rnext_cons (mkR w s) _ s 0 [] hR (by simpa using hq) (by omega)
    have hc : c < 256 := bs_lt c (by rw [hq]; simp)
    have hlen : r.length + 1 = s.size := by rw [← bs_length, hq]; rfl
    by_cases hc34 : c = 34
    · subst hc34
      have HQ : Hid (scanQ (bs s) = joinR [] 1 (bodyQ ((bs s).drop 1))) := Lib.hid (by rw [hq]; rfl)
      rw [← hq]
      unfold mkR mk3 at hN
      clear hq
      go_enter_defers Tryd.func9, Tryd.ntmps9
      go_wp2_with fail
      refine hN.mono ?_
      clear hN
      rintro e w1 ⟨rfl, hR1, hb1, hB1⟩
      have y0 := x0.below hb1 (by omega)
      have y1 := x1.below hb1 (by omega)
      have y2 := x2.below hb1 (by omega)
      have hb1' := hB.trans (hb1.mono (by omega))
      clear x0 x1 x2 hB1 hb1 hB hR hTR
      go_wp2_with fail
      go_loopw [] (fun wr => ∃ (k : Nat) (pre : List Nat), RdrAt wr (w.heap.size + 3) s k (un pre) ∧ k ≤ s.size ∧ pre.length ≤ 4 * k ∧ joinR pre k (bodyQ ((bs s).drop k)) = scanQ (bs s) ∧ Cells wr w.heap.size #[.string ⟨#[]⟩] 9 ∧ Cells wr (w.heap.size + 1) #[.int .i64 0] 3 ∧ Cells wr (w.heap.size + 2) #[.int .i64 0] 23 ∧ Below w.heap.size w wr) (fun wr => s.size - atOf wr (w.heap.size + 3))
      case atStart => exact ⟨1, [], hR1, by omega, by simp, HQ.out.symm, y0, y1, y2, hb1'⟩
      case round =>
        clear hR1 y0 y1 y2 hb1' HQ
        obtain ⟨k, pre, hR, hk, hpl, hj, x0, x1, x2, hb⟩ := hrel
        have HJ := Lib.hid hj
        have hat : atOf wr (w.heap.size + 3) = k := hR.atOf
        have hT1 := hT.below hb hpos
        have hP := part_any wr _ s k (un pre) hR hk hs (by rw [un_length]; omega) hT1 (by omega)
        clear hj
        have hBy : Byt ((bs s).drop k) := fun x hx => bs_lt x (List.mem_of_mem_drop hx)
        go_wp2_with fail
        refine hP.mono ?_
        clear hP
        rintro e w2 (⟨hh, rfl, hR2, hb2⟩ | ⟨hh, he, rfl, hR2, hb2⟩ | ⟨hh, he, rfl, hb2⟩)
        · have HC : Hid (scanQ (bs s) = (pre, k + 1, 0)) := Lib.hid (by rw [← HJ.out, joinR_end hBy hh])
          have y0 := x0.below hb2 (by omega)
          have y1 := x1.below hb2 (by omega)
          have y2 := x2.below hb2 (by omega)
          have hb3 := hb.trans (hb2.mono (by omega))
          clear hh hBy x0 x1 x2 hb hb2 HJ hR hat
          obtain ⟨cs, hbl, h5, h6, h7⟩ := hR2
          have hlt2 := hbl.cells.lt
          have hg2 := hbl.cells
          have hc2 : w2.drew.cell? ⟨w.heap.size + 1 + 1 + 1, 1, none⟩ = some (.int .i64 ((k + 1 : Nat) : Int)) := hbl.cells.cell 1 _ h7
          have hl2 : (un pre).length ≤ 1000000000 := by rw [un_length]; omega
          have hSt := String_any w2.drew (h := (show Bld 45 (w.heap.size + 3) w2.drew (w.heap.size + 3) 2 cs (un pre) from ⟨hbl.cells.drew, hbl.addr, by obtain ⟨v, e1, e2⟩ := hbl.buf; exact ⟨v, e1, e2.drew⟩⟩)) (Nat.le_of_lt hlt2) hl2
          obtain ⟨S, hS⟩ : ∃ S : ByteArray, S = ⟨(un pre).toArray⟩ := ⟨_, rfl⟩
          rw [← hS] at hSt
          have HS := Lib.hid hS
          clear hS hbl hl2 h5 h6
          go_wp2_with fail
          go_region_held3 (fun w' => w'.cell? ⟨w.heap.size + 1 + 1 + 1, 1, none⟩ = some (.int .i64 ((k + 1 : Nat) : Int))) (first | exact hc2 | exact hc6 | exact hc7 | exact hc8 | exact hc9) (first
            | (go_at_call 19; refine hSt.mono ?_; rintro e6 w6 ⟨rfl, hb6, hk6⟩
               have hz2 := y2.lt
               have z0 : Cells w6 w.heap.size _ _ := hk6 _ _ y0.lt y0 (fun _ _ h => by cases h)
               have z1 : Cells w6 (w.heap.size + 1) _ _ := hk6 _ _ y1.lt y1 (fun _ _ h => by cases h)
               have z2 : Cells w6 (w.heap.size + 1 + 1) _ _ := hk6 _ _ y2.lt y2 (fun _ _ h => by cases h)
               have zg : Cells w6 (w.heap.size + 1 + 1 + 1) cs 45 := hk6 _ _ hlt2 hg2 (fun _ _ h => by cases h)
               have hc6 := zg.cell 1 _ h7
               have zg7 := zg.setOther ⟨w.heap.size, 0, none⟩ (.string S) (by simp; omega)
               have zg8 := zg7.setOther ⟨w.heap.size + 1, 0, none⟩ (.int .i64 ((k + 1 : Nat) : Int)) (by simp)
               have zg9 := zg8.setOther ⟨w.heap.size + 1 + 1, 0, none⟩ (.int .i64 0) (by simp)
               have hc7 := zg7.cell 1 _ h7
               have hc8 := zg8.cell 1 _ h7
               have hc9 := zg9.cell 1 _ h7
               have z0c := z0.cell 0 _ rfl
               have z0f := z0.frozen 0
               have z1c := z1.cell 0 _ rfl
               have z1f := z1.frozen 0
               have z2c := z2.cell 0 _ rfl
               have z2f := z2.frozen 0))
          have r0 := ((z0.set 0 (by simp) (.string S)).setOther ⟨w.heap.size + 1, 0, none⟩ (.int .i64 ((k + 1 : Nat) : Int)) (by simp)).setOther ⟨w.heap.size + 1 + 1, 0, none⟩ (.int .i64 0) (by simp; omega)
          have r1 := ((z1.setOther ⟨w.heap.size, 0, none⟩ (.string S) (by simp)).set 0 (by simp) (.int .i64 ((k + 1 : Nat) : Int))).setOther ⟨w.heap.size + 1 + 1, 0, none⟩ (.int .i64 0) (by simp)
          have r2 := ((z2.setOther ⟨w.heap.size, 0, none⟩ (.string S) (by simp; omega)).setOther ⟨w.heap.size + 1, 0, none⟩ (.int .i64 ((k + 1 : Nat) : Int)) (by simp)).set 0 (by simp) (.int .i64 0)
          have hb7 : Below w.heap.size w w6 := hb3.drew.trans (hb6.mono (by omega))
          have hb8 := ((hb7.setCell (p := ⟨w.heap.size, 0, none⟩) (Nat.le_refl _) (.string S)).setCell (p := ⟨w.heap.size + 1, 0, none⟩) (by simp) (.int .i64 ((k + 1 : Nat) : Int))).setCell (p := ⟨w.heap.size + 1 + 1, 0, none⟩) (by simp; omega) (.int .i64 0)
          have q0 := r0.cell 0 _ rfl
          have q1 := r1.cell 0 _ rfl
          have q2 := r2.cell 0 _ rfl
          clear r0 r1 r2 z0 z1 z2 zg zg7 zg8 zg9 z0c z0f z1c z1f z2c z2f hc2 hc6 hc7 hc8 hc9 hk6 hSt
          go_wp2
          refine leaves_cons (f := 15) (args := #[.pointer (some ⟨w.heap.size, 0, none⟩), .pointer (some ⟨w.heap.size + 1, 0, none⟩), .pointer (some ⟨w.heap.size + 1 + 1, 0, none⟩)]) (by simp) (by simp [go_sem]) ?_
          refine (catch_idle _ _ _ _).mono ?_
          rintro e u' w'' ⟨rfl, rfl, rfl⟩
          simp only [Int.natCast_add, Int.natCast_one] at q0 q1 q2 hb8
          simp [Leaves, settle, results, Tryd.results9, go_sem, q0, q1, q2]
          exact ⟨by rw [HC.out, HS.out]; rfl, hb8⟩
        · obtain ⟨c, hc1, hc2, hc3, hc4⟩ := partQ_ok hBy he
          have HN : Hid (joinR (pre ++ (partQ ((bs s).drop k)).1) (k + (partQ ((bs s).drop k)).2.1) (bodyQ ((bs s).drop (k + (partQ ((bs s).drop k)).2.1))) = scanQ (bs s)) := Lib.hid (by rw [← HJ.out, joinR_good hBy hh he, List.drop_drop])
          have hpl2 : (pre ++ (partQ ((bs s).drop k)).1).length ≤ 4 * (k + (partQ ((bs s).drop k)).2.1) := by
            rw [List.length_append, hc2, putN_len]; have := (wid_pos c).2; omega
          have hk2 : k + (partQ ((bs s).drop k)).2.1 ≤ s.size := by rw [List.length_drop, bs_length] at hc4; omega
          have hR3 : RdrAt w2 (w.heap.size + 3) s (k + (partQ ((bs s).drop k)).2.1) (un (pre ++ (partQ ((bs s).drop k)).1)) := by rw [un_append]; exact hR2
          have hat2 : atOf w2 (w.heap.size + 3) = k + (partQ ((bs s).drop k)).2.1 := hR3.atOf
          have y0 := x0.below hb2 (by omega)
          have y1 := x1.below hb2 (by omega)
          have y2 := x2.below hb2 (by omega)
          have hb3 := hb.trans (hb2.mono (by omega))
          generalize (partQ ((bs s).drop k)).2.1 = z at *
          generalize (partQ ((bs s).drop k)).1 = zo at *
          have HAT := Lib.hid hat
          have HAT2 := Lib.hid hat2
          clear hat hat2 hh he hc2
          go_wp2
          go_roundw
          case rel => exact ⟨k + z, pre ++ zo, hR3, hk2, hpl2, HN.out, y0, y1, y2, hb3⟩
          case measure => rw [HAT.out, HAT2.out]; omega
        · have HC : Hid (scanQ (bs s) = errR (partQ ((bs s).drop k)).2.2) := Lib.hid (by rw [← HJ.out, joinR_bad hBy hh he])
          have y0 := x0.below hb2 (by omega)
          have y1 := x1.below hb2 (by omega)
          have y2 := x2.below hb2 (by omega)
          have hb3 := hb.trans (hb2.mono (by omega))
          clear hh hBy x0 x1 x2 hb hb2 HJ hR he hat
          generalize (partQ ((bs s).drop k)).2.2 = z at *
          go_wp2
          refine leaves_cons (f := 15) (args := #[.pointer (some ⟨w.heap.size, 0, none⟩), .pointer (some ⟨w.heap.size + 1, 0, none⟩), .pointer (some ⟨w.heap.size + 2, 0, none⟩)]) (by simp) (by simp [go_sem]) ?_
          refine (catch_panicking w.heap.size (w.heap.size + 1) (w.heap.size + 2) _ _ _ _ [] _ y0 y1 y2 (by omega) (by omega)).mono ?_
          rintro e u' w'' ⟨rfl, rfl, r0, r1, r2, hbl⟩
          have q0 := r0.cell 0 _ rfl
          have q1 := r1.cell 0 _ rfl
          have q2 := r2.cell 0 _ rfl
          clear r0 r1 r2
          simp [Leaves, settle, results, Tryd.results9, go_sem, q0, q1, q2]
          exact ⟨by rw [HC.out]; rfl, hb3.trans hbl⟩
    · have HC : Hid (scanQ (bs s) = errR 3) := Lib.hid (by rw [hq]; simp only [scanQ]; rw [if_pos hc34])
      have hbc : ((c : Int) != 34) = true := by rw [bne_iff_ne]; omega
      rw [← hq]
      unfold mkR mk3 at hN
      clear hq hc34
      go_enter_defers Tryd.func9, Tryd.ntmps9
      go_wp2_with fail
      refine hN.mono ?_
      rintro e w1 ⟨rfl, hR1, hb1, hB1⟩
      have y0 := x0.below hb1 (by omega)
      have y1 := x1.below hb1 (by omega)
      have y2 := x2.below hb1 (by omega)
      go_wp2_with fail
      refine (fail_any 3 _).mono ?_
      rintro e w2 ⟨rfl, rfl⟩
      go_wp2
      refine leaves_cons (f := 15) (args := #[.pointer (some ⟨w.heap.size, 0, none⟩), .pointer (some ⟨w.heap.size + 1, 0, none⟩), .pointer (some ⟨w.heap.size + 2, 0, none⟩)]) (by simp) (by simp [go_sem]) ?_
      refine (catch_panicking w.heap.size (w.heap.size + 1) (w.heap.size + 2) _ _ _ _ [] _ y0 y1 y2 (by omega) (by omega)).mono ?_
      rintro e u' w'' ⟨rfl, rfl, r0, r1, r2, hbl⟩
      have q0 := r0.cell 0 _ rfl
      have q1 := r1.cell 0 _ rfl
      have q2 := r2.cell 0 _ rfl
      clear r0 r1 r2
      simp [Leaves, settle, results, Tryd.results9, go_sem, q0, q1, q2]
      exact ⟨by rw [HC.out]; rfl, (hB.trans (hb1.mono (by omega))).trans hbl⟩

/-- What Parse tells. -/
def parseQ (l : List Nat) : List Nat × Nat := if (scanQ l).2.2 ≠ 0 then ([], (scanQ l).2.2) else if (scanQ l).2.1 < l.length then ([], 14) else ((scanQ l).1, 0)
def parseV (q : List Nat × Nat) : Value := .tuple #[.string (strOf (un q.1)), .int .i64 (q.2 : Int)]

set_option maxHeartbeats 1000000 in
set_option maxRecDepth 100000 in
theorem Parse_any (s : ByteArray) (w : World) (hs : s.size ≤ 100000) (hT : Tab w) :
    Calls Tryd.prog 11 #[.string s] w fun e w' => e = .returned (parseV (parseQ (bs s))) ∧ Below w.heap.size w w' := by
  have hS := Scan_any s w hs hT
  unfold scanV at hS
  unfold parseV parseQ
  rw [bs_length]
  generalize scanQ (bs s) = q at *
  obtain ⟨o, z, e⟩ := q
  simp only at hS ⊢
  by_cases he : e = 0
  · subst he
    simp only [ne_eq, not_true_eq_false, if_false]
    by_cases hz : z < s.size
    · rw [if_pos hz]
      go_enter Tryd.func11, Tryd.ntmps11
      go_wp2_with fail
      refine hS.mono ?_
      rintro e w1 ⟨rfl, hb1⟩
      go_wp2
      go_ret2
      exact ⟨rfl, hb1⟩
    · rw [if_neg hz]
      have hz' : s.size ≤ z := by omega
      clear hz
      go_enter Tryd.func11, Tryd.ntmps11
      go_wp2_with fail
      refine hS.mono ?_
      rintro e w1 ⟨rfl, hb1⟩
      go_wp2
      go_ret2
      exact ⟨rfl, hb1⟩
  · rw [if_pos he]
    have hbe : ((e : Int) != 0) = true := by rw [bne_iff_ne]; omega
    clear he
    go_enter Tryd.func11, Tryd.ntmps11
    go_wp2_with fail
    refine hS.mono ?_
    rintro e w1 ⟨rfl, hb1⟩
    go_wp2
    go_ret2
    exact ⟨rfl, hb1⟩
end Go.Proofs.YtgkgdmpbcneoiaaDoor
