/- The walk of the reference's Sort, of what has no keys (layer 8). -/
import Derived.Test.YtpcfhiipkbpmkaaDoorTsV
import Derived.Test.YtpcfhiipkbpmkaaDoorTsT
namespace Go.Proofs.YtpcfhiipkbpmkaaDoor
open Go.RowKit Go.Tab

/-- What the reference's Sort is told to do, for all values up to a bulk. -/
def RSort (n : Nat) : Prop := ∀ (t : Tree), t.bulk ≤ n → t.bulk ≤ 1048576 → wholeT t → ∀ (w : World) (cs : List Value), ValAt w t cs → Calls Tryd.prog 30 #[valV cs] w (CopyP (sortT t) w)

theorem ValIn.out {base : Nat} {w : World} {v kv : Value} {t : Tree} {cs : List Value} {w0 : World} (h : ValIn (fun k => w0.heap.size ≤ k) w t cs) (hb : base ≤ w0.heap.size) (hv : ∀ g, v.ownBlock = some g → g < w0.heap.size) (hk : ∀ g, kv.ownBlock = some g → g < w0.heap.size) :
    ValIn (fun k => base ≤ k ∧ some k ≠ v.ownBlock ∧ some k ≠ kv.ownBlock) w t cs :=
  ValIn.move (Nat.le_refl _) (fun _ _ _ => rfl) (fun k hk' _ => ⟨by omega, fun e => by have := hv k e.symm; omega, fun e => by have := hk k e.symm; omega⟩) _ _ h

/-- What a round reads. -/
abbrev RdS (b1 bb o : Nat) (sl c0 c1 c2 c3 c4 c5 c6 c7 : Value) (W : World) : Prop :=
  W.cell? ⟨b1, 7, none⟩ = some sl ∧ W.cell? ⟨bb, o, none⟩ = some c0 ∧ W.cell? ⟨bb, o + 1, none⟩ = some c1 ∧ W.cell? ⟨bb, o + 2, none⟩ = some c2 ∧ W.cell? ⟨bb, o + 3, none⟩ = some c3 ∧ W.cell? ⟨bb, o + 4, none⟩ = some c4 ∧ W.cell? ⟨bb, o + 5, none⟩ = some c5 ∧ W.cell? ⟨bb, o + 6, none⟩ = some c6 ∧ W.cell? ⟨bb, o + 7, none⟩ = some c7
theorem RdS.move {b1 bb o : Nat} {sl c0 c1 c2 c3 c4 c5 c6 c7 : Value} {W W' : World} (h : RdS b1 bb o sl c0 c1 c2 c3 c4 c5 c6 c7 W) (e1 : W'.heap[b1]? = W.heap[b1]?) (e3 : W'.heap[bb]? = W.heap[bb]?) : RdS b1 bb o sl c0 c1 c2 c3 c4 c5 c6 c7 W' := by
  obtain ⟨h1, h2, h3, h4, h5, h6, h7, h8, h9⟩ := h
  exact ⟨(cell_same e1 _).trans h1, (cell_same e3 _).trans h2, (cell_same e3 _).trans h3, (cell_same e3 _).trans h4, (cell_same e3 _).trans h5, (cell_same e3 _).trans h6, (cell_same e3 _).trans h7, (cell_same e3 _).trans h8, (cell_same e3 _).trans h9⟩
theorem cells8_one (kind : Int) (is neg : Bool) (dig : ByteArray) (exp : Int) (str : ByteArray) (ka : Option Addr) (kn kc : Nat) (sa : Option Addr) (sn sc : Nat) : ∀ u ∈ [Value.int .i64 kind, .bool is, .bool neg, .string dig, .int .i64 exp, .string str, .slice ka kn kc, .slice sa sn sc], u.oneCell' = true := fun u hu => by
  simp only [List.mem_cons, List.not_mem_nil, or_false] at hu
  rcases hu with rfl | rfl | rfl | rfl | rfl | rfl | rfl | rfl <;> rfl
theorem sort_done {w wr : World} {kind : Int} {is neg : Bool} {d : ByteArray} {e : Int} {s : ByteArray} {kv v : Value} {keys : List ByteArray} {ts : List Tree} (hown : OwnOf Value.string 9 (w.heap.size + 3) wr kv keys) (hrow : KidRow (w.heap.size + 3) wr v kv ts) (l : List Value) :
    ValIn (fun m => w.heap.size ≤ m) (setAll wr (w.heap.size + 1) 0 l) (.mk kind is neg d e s keys ts) [.int .i64 kind, .bool is, .bool neg, .string d, .int .i64 e, .string s, kv, v] := by
  obtain ⟨a2, cap2, rfl, h1, h2, h3, h4⟩ := hrow.cells
  refine ValIn.move (P := fun m => w.heap.size + 3 ≤ m) (w := wr) (Nat.le_of_eq (setAll_size _ _ _ _).symm) (fun m hm _ => setAll_other _ _ _ _ m (by omega)) (fun m hm _ => by omega) _ _ ?_
  simp only [ValIn]
  exact ⟨kv, a2, cap2, rfl, ⟨hown.row, fun b hb hne => ⟨hown.own_ge b hb, fun off => by obtain ⟨g, cap, rfl, -⟩ := hown.shape hne; simp [Value.ownBlock] at hb; subst hb; exact hown.frozenAt off⟩⟩, h1, h2, h3, h4⟩
set_option linter.unusedSimpArgs false in
set_option maxHeartbeats 8000000 in
set_option maxRecDepth 100000 in
theorem rSort_not (n : Nat) (IH : RSort n) (kind : Int) (is neg : Bool) (digits : ByteArray) (exp : Int) (str : ByteArray) (keys : List ByteArray) (kids : List Tree) (h : (Tree.mk kind is neg digits exp str keys kids).bulk ≤ n + 1) (hmax : (Tree.mk kind is neg digits exp str keys kids).bulk ≤ 1048576)
    (hw : wholeT (.mk kind is neg digits exp str keys kids)) (h6 : kind ≠ 6) (w : World) (cs : List Value) (hv : ValAt w (.mk kind is neg digits exp str keys kids) cs) :
    Calls Tryd.prog 30 #[valV cs] w (CopyP (sortT (.mk kind is neg digits exp str keys kids)) w) := by
  have hkb : bulkAll kids ≤ n ∧ bulkAll kids ≤ 1048576 := by simp only [Tree.bulk] at h hmax; omega
  simp only [ValAt] at hv
  obtain ⟨kv, a, cap, rfl, hk, hl, hm, hnil, hx⟩ := hv
  obtain ⟨ka, kc, rfl, hkl0, hkm0, -⟩ := hk.len
  have hll := len_bulk kids
  unfold maxLen at hm hkm0
  simp only [wholeT] at hw
  have HW := Lib.hid ((wholeAll_iff kids).1 hw.2)
  have hsort : sortT (.mk kind is neg digits exp str keys kids) = .mk kind is neg digits exp str [] (sortAllT kids) := by rw [sortT, if_neg h6]
  rw [hsort]
  have b6 : (kind != 6) = true := by rw [bne_iff_ne]; exact h6
  obtain ⟨i0, hi0, hi1⟩ := Option.map_eq_some_iff.1 Tryd.infoVal
  simp only [Prod.mk.injEq] at hi1
  obtain ⟨hz0, hz1, hz2⟩ := hi1
  simp only [valV]
  clear h hmax hw hsort h6 hk
  have hb0 : Below w.heap.size w (((w.alloc (.cells #[.int .i64 kind, .bool is, .bool neg, .string digits, .int .i64 exp, .string str, .slice ka keys.length kc, .slice a kids.length cap] 27)).alloc (.cells #[.int .i64 0, .bool false, .bool false, .string ⟨#[]⟩, .int .i64 0, .string ⟨#[]⟩, .slice none 0 0, .slice none 0 0] 27)).alloc (.cells #[.int .i64 kind, .bool is, .bool neg, .string digits, .int .i64 exp, .string str, .slice none 0 0, .slice none 0 0] 27)) := by (repeat' (first | (with_reducible refine Below.setCell ?_ ?_ _) | (with_reducible refine Below.alloc ?_ ?_ _) | (with_reducible refine Below.drew ?_) | (with_reducible assumption) | (with_reducible exact Below.refl _ _) | (simp only [World.size_alloc, World.size_setCell, World.size_drew]; done) | (simp only [World.size_alloc, World.size_setCell, World.size_drew]; omega) | omega))
  obtain ⟨hc0, hc1, hc2, hz3⟩ := three_new (w := w) (c1 := #[.int .i64 kind, .bool is, .bool neg, .string digits, .int .i64 exp, .string str, .slice ka keys.length kc, .slice a kids.length cap]) (c2 := #[.int .i64 0, .bool false, .bool false, .string ⟨#[]⟩, .int .i64 0, .string ⟨#[]⟩, .slice none 0 0, .slice none 0 0]) (c3 := #[.int .i64 kind, .bool is, .bool neg, .string digits, .int .i64 exp, .string str, .slice none 0 0, .slice none 0 0]) (T := 27) ⟨rfl, rfl, rfl, Nat.le_refl _, fun _ _ _ => rfl⟩
  have HS := Lib.hid (And.intro hb0 (And.intro hc0 (And.intro hc1 (And.intro hc2 hz3))))
  clear hb0 hc0 hc1 hc2 hz3
  go_enter Tryd.func30, Tryd.ntmps30
  go_wp2_with fail
  go_loopw [4] (fun i wr => ∃ k : Nat, k ≤ kids.length ∧ i = .int .i64 (k : Int) ∧ Cells wr w.heap.size #[.int .i64 kind, .bool is, .bool neg, .string digits, .int .i64 exp, .string str, .slice ka keys.length kc, .slice a kids.length cap] 27 ∧ Cells wr (w.heap.size + 1) #[.int .i64 0, .bool false, .bool false, .string ⟨#[]⟩, .int .i64 0, .string ⟨#[]⟩, .slice none 0 0, .slice none 0 0] 27 ∧
    (∃ v, Cells wr (w.heap.size + 1 + 1) #[.int .i64 kind, .bool is, .bool neg, .string digits, .int .i64 exp, .string str, .slice none 0 0, v] 27 ∧ KidRow (w.heap.size + 3) wr v (.slice none 0 0) ((kids.take k).map sortT)) ∧ w.heap.size + 3 ≤ wr.heap.size ∧ Below w.heap.size w wr) (fun i _ => kids.length - (intOf i).toNat)
  case atStart => exact ⟨0, Nat.zero_le _, rfl, HS.out.2.1, HS.out.2.2.1, ⟨_, HS.out.2.2.2.1, KidRow.nil _ _ _⟩, HS.out.2.2.2.2, HS.out.1⟩
  case round =>
    clear HS
    obtain ⟨k, hkk, rfl, hd0, hd1, ⟨v, hd2, hrow⟩, hz, hbl⟩ := hrel
    have hy0 := hd0.lt
    have hy1 := hd1.lt
    have hy2 := hd2.lt
    by_cases hkl : k < kids.length
    · have hne : kids ≠ [] := by intro h0; rw [h0] at hkl; simp at hkl
      cases a with
      | none => have := hnil rfl; omega
      | some x =>
      obtain ⟨bb, off, sp⟩ := x
      obtain ⟨rfl, hlt, hkids⟩ := hx _ rfl hne
      simp only at hlt hkids
      obtain ⟨kc0, hkc, hkv⟩ := KidsAt.get (KidsAt.below hbl hlt kids _ hkids) k hkl
      obtain ⟨kkind, kis, kneg, kdig, kexp, kstr, kka, kkn, kkc, ksa, ksn, ksc, rfl, m0, m1, m2, m3, m4, m5, m6, m7⟩ := kid_at hkv hkc
      have hr1 := Nat.lt_of_lt_of_le hlt hbl.size
      have hC := IH kids[k] (by have := bulk_kid hkl; omega) (by have := bulk_kid hkl; omega) (HW.out k hkl) wr.drew _ (ValAt.below (Below.refl _ wr).drew _ _ hkv)
      have HTK : Hid ((kids.take (k + 1)).map sortT = (kids.take k).map sortT ++ [sortT kids[k]]) := Lib.hid (by rw [take_snoc' kids k hkl, List.map_append]; rfl)
      have hlr : ((kids.take k).map sortT).length = k := by simp; omega
      clear hkids hkc hkv
      generalize kids[k] = kid at *
      simp only [valV] at hC
      have hcc7 := hd0.cell 7 _ rfl
      have o7 := hd2.cell 7 _ rfl
      have HROW := Lib.hid hrow
      have HD := Lib.hid (And.intro hd0 (And.intro hd1 (And.intro hd2 hbl)))
      clear hrow hd0 hd1 hd2
      obtain ⟨L, hL1, hL2, hL3⟩ := HROW.out
      have hLk : L.length = k := by rw [← hlr, ← hL1, List.length_map]
      have HL := Lib.hid (And.intro hL1 (And.intro hL2 hL3))
      have hvl := fun g hg => (World.ownsRow.lt hL3 g hg).2
      have hvb := fun g hg => (World.ownsRow.lt hL3 g hg).1
      clear hL1 hL2 hL3 HROW
      go_wp2_with fail
      have hs1 : RdS w.heap.size bb (off + k * 8) (.slice (some ⟨bb, off, none⟩) kids.length cap) (.int .i64 kkind) (.bool kis) (.bool kneg) (.string kdig) (.int .i64 kexp) (.string kstr) (.slice kka kkn kkc) (.slice ksa ksn ksc) wr := ⟨hcc7, m0, m1, m2, m3, m4, m5, m6, m7⟩
      go_region_law (first
        | (go_simp; go_at_call 30; refine hC.mono ?_; rintro e w2 ⟨⟨cs2, rfl, hin⟩, hb2⟩; obtain ⟨kind3, is3, neg3, dig3, exp3, str3, ka3, kn3, kc3, sa3, sn3, sc3, rfl⟩ := ValIn.shape hin; have HIN := Lib.hid hin; have hs2 := hs1.move (W' := w2) (hb2.block _ hy0) (hb2.block _ hr1); have o7b := ((HD.out.2.2.1.drew).below hb2 hy2).cell 7 _ rfl; have hz2b : wr.heap.size ≤ w2.heap.size := hb2.size; have hy2b : w.heap.size + 1 + 1 < w2.heap.size := Nat.lt_of_lt_of_le hy2 hz2b; have hy2c : ¬ w2.heap.size = w.heap.size + 1 + 1 := (by omega); have hy2d : ¬ w.heap.size + 1 + 1 = w2.heap.size := (by omega); have HB2 := Lib.hid hb2; have HOW2 := Lib.hid (own_keeps HL.out.2.2 (fun g hg => hb2.block g (hvl g hg))); have hs3 := hs2.move (W' := w2.alloc (.cells #[.int .i64 kind3, .bool is3, .bool neg3, .string dig3, .int .i64 exp3, .string str3, .slice ka3 kn3 kc3, .slice sa3 sn3 sc3] 27)) (Below.heap_alloc _ _ _ (by omega)) (Below.heap_alloc _ _ _ (by omega)); clear hin hb2; simp only [valV])
        | (refine step_append_lies _ rfl _ _ 25 rfl (w.heap.size + 3) 27 i0 _ 8 112 Tryd.underlying25 hi0 hz0 hz1 hz2 rfl (by decide) v L.length (L.flatMap (·.2)) (by rfl) (by exact World.ownsRow.alloc HOW2.out _) ⟨w2.heap.size, 0, none⟩ 1 1 [.int .i64 kind3, .bool is3, .bool neg3, .string dig3, .int .i64 exp3, .string str3, .slice ka3 kn3 kc3, .slice sa3 sn3 sc3] (by rfl) rfl (by intro j u hu; rw [Addr.add_lit, Nat.zero_add, World.cell?_alloc_new]; simpa using hu) (cells8_one _ _ _ _ _ _ _ _ _ _ _ _) (by omega) (by unfold maxLen; omega) (by omega) (by simp; omega) _ rfl ?_; intro g3 cap3 w3 hown3 hgrow3 hat3 hlt3; have hx2 := (((HD.out.2.2.1.drew).below HB2.out hy2).alloc (.cells #[.int .i64 kind3, .bool is3, .bool neg3, .string dig3, .int .i64 exp3, .string str3, .slice ka3 kn3 kc3, .slice sa3 sn3 sc3] 27)).kept hgrow3 (fun e => by have := hvb _ e.symm; omega); have hs4 := hs3.move (W' := w3) (hgrow3.block _ (by simp; omega) (fun e => by have := hvb _ e.symm; omega)) (hgrow3.block _ (by simp; omega) (fun e => by have := hvb _ e.symm; omega)); have o7f := hx2.frozen 7; have o7c := hx2.cell 7 _ rfl; have HG := Lib.hid (And.intro hown3 (And.intro hgrow3 (And.intro hat3 hx2))); clear hown3 hgrow3 hat3 hx2))
      all_goals
        obtain ⟨q1, q2, q3, q4⟩ := HG.out
        have hbA : Below w2.heap.size w2 (w2.alloc (.cells #[.int .i64 kind3, .bool is3, .bool neg3, .string dig3, .int .i64 exp3, .string str3, .slice ka3 kn3 kc3, .slice sa3 sn3 sc3] 27)) := (Below.refl _ _).alloc (Nat.le_refl _) _
        have hne : ∀ g, v.ownBlock = some g → g ≠ w.heap.size ∧ g ≠ w.heap.size + 1 := fun g hg => ⟨by have := hvb g hg; omega, by have := hvb g hg; omega⟩
        have hKR := KidRow.push (base := w.heap.size + 3) (kv := .slice none 0 0) (t := sortT kid) (cs := [.int .i64 kind3, .bool is3, .bool neg3, .string dig3, .int .i64 exp3, .string str3, .slice ka3 kn3 kc3, .slice sa3 sn3 sc3]) (fun s hs => ValIn.below hbA _ _ (ValIn.below HB2.out _ _ (ValIn.below (Below.refl _ wr).drew _ _ (HL.out.2.1 s hs)))) (ValIn.below hbA _ _ (ValIn.out HIN.out hz hvl (fun g hg => by cases hg))) q2 q3 q1
        rw [hLk, HL.out.1, ← HTK.out] at hKR
        have k0 := (((HD.out.1.drew).below HB2.out hy0).alloc (.cells #[.int .i64 kind3, .bool is3, .bool neg3, .string dig3, .int .i64 exp3, .string str3, .slice ka3 kn3 kc3, .slice sa3 sn3 sc3] 27)).kept q2 (fun e => (hne _ e.symm).1 rfl)
        have k1 := (((HD.out.2.1.drew).below HB2.out hy1).alloc (.cells #[.int .i64 kind3, .bool is3, .bool neg3, .string dig3, .int .i64 exp3, .string str3, .slice ka3 kn3 kc3, .slice sa3 sn3 sc3] 27)).kept q2 (fun e => (hne _ e.symm).2 rfl)
        have hbe := (((HD.out.2.2.2.drew).trans (HB2.out.mono HD.out.2.2.2.drew.size)).trans (hbA.mono (Nat.le_trans HD.out.2.2.2.size hz2b))).grown q2 (by have := HD.out.2.2.2.size; simp; omega) (fun g hg => by have := hvb g hg; omega)
        have hzz : w.heap.size + 3 ≤ w3.heap.size := by have := q2.size; simp at this; omega
        have HE := Lib.hid (And.intro k0 (And.intro k1 (And.intro q4 (And.intro hKR (And.intro hbe hzz)))))
        clear q1 q2 q3 q4 hbA hne hKR k0 k1 hbe hzz
        go_wp2_with fail
        go_roundw
      all_goals first
        | (exact ⟨k + 1, hkl, by go_num, HE.out.1.setOther _ _ (by show w.heap.size + 1 + 1 ≠ _; omega), HE.out.2.1.setOther _ _ (by show w.heap.size + 1 + 1 ≠ _; omega), ⟨_, HE.out.2.2.1.setI 7 _, HE.out.2.2.2.1.set (by omega) 7 _⟩, by rw [World.size_setCell]; exact HE.out.2.2.2.2.2, HE.out.2.2.2.2.1.setCell (by show w.heap.size ≤ w.heap.size + 1 + 1; omega) _⟩)
        | (simp [intOf]; omega)
    · obtain rfl : k = kids.length := by omega
      rw [List.take_length, ← sortAllT_map] at hrow
      have hval := sort_done (w := w) (kind := kind) (is := is) (neg := neg) (d := digits) (e := exp) (s := str) OwnOf.nil hrow [.int .i64 kind, .bool is, .bool neg, .string digits, .int .i64 exp, .string str, .slice none 0 0, v]
      obtain ⟨a2, cap2, hv2, -⟩ := hrow.cells
      rw [hv2] at hd2 hval
      have HVAL := Lib.hid hval
      have HBE := Lib.hid (setAll_below (w.heap.size + 1) w.heap.size (Nat.le_succ _) [.int .i64 kind, .bool is, .bool neg, .string digits, .int .i64 exp, .string str, .slice none 0 0, .slice a2 (sortAllT kids).length cap2] 0 _ _ hbl)
      clear hrow IH hval hbl hv2
      have hd0c0 := hd0.cell 0 _ rfl
      have hd0f0 := hd0.frozen 0
      have hd0c1 := hd0.cell 1 _ rfl
      have hd0f1 := hd0.frozen 1
      have hd0c2 := hd0.cell 2 _ rfl
      have hd0f2 := hd0.frozen 2
      have hd0c3 := hd0.cell 3 _ rfl
      have hd0f3 := hd0.frozen 3
      have hd0c4 := hd0.cell 4 _ rfl
      have hd0f4 := hd0.frozen 4
      have hd0c5 := hd0.cell 5 _ rfl
      have hd0f5 := hd0.frozen 5
      have hd0c6 := hd0.cell 6 _ rfl
      have hd0f6 := hd0.frozen 6
      have hd0c7 := hd0.cell 7 _ rfl
      have hd0f7 := hd0.frozen 7
      have hd1c0 := hd1.cell 0 _ rfl
      have hd1f0 := hd1.frozen 0
      have hd1c1 := hd1.cell 1 _ rfl
      have hd1f1 := hd1.frozen 1
      have hd1c2 := hd1.cell 2 _ rfl
      have hd1f2 := hd1.frozen 2
      have hd1c3 := hd1.cell 3 _ rfl
      have hd1f3 := hd1.frozen 3
      have hd1c4 := hd1.cell 4 _ rfl
      have hd1f4 := hd1.frozen 4
      have hd1c5 := hd1.cell 5 _ rfl
      have hd1f5 := hd1.frozen 5
      have hd1c6 := hd1.cell 6 _ rfl
      have hd1f6 := hd1.frozen 6
      have hd1c7 := hd1.cell 7 _ rfl
      have hd1f7 := hd1.frozen 7
      have hd2c0 := hd2.cell 0 _ rfl
      have hd2f0 := hd2.frozen 0
      have hd2c1 := hd2.cell 1 _ rfl
      have hd2f1 := hd2.frozen 1
      have hd2c2 := hd2.cell 2 _ rfl
      have hd2f2 := hd2.frozen 2
      have hd2c3 := hd2.cell 3 _ rfl
      have hd2f3 := hd2.frozen 3
      have hd2c4 := hd2.cell 4 _ rfl
      have hd2f4 := hd2.frozen 4
      have hd2c5 := hd2.cell 5 _ rfl
      have hd2f5 := hd2.frozen 5
      have hd2c6 := hd2.cell 6 _ rfl
      have hd2f6 := hd2.frozen 6
      have hd2c7 := hd2.cell 7 _ rfl
      have hd2f7 := hd2.frozen 7
      clear hd0 hd1 hd2
      go_wp2_with fail
      refine bodyPost_ret (v := .agg #[.int .i64 kind, .bool is, .bool neg, .string digits, .int .i64 exp, .string str, .slice none 0 0, .slice a2 (sortAllT kids).length cap2]) (by simp [results, Tryd.results30, go_sem, *]) rfl ?_
      exact ⟨⟨_, rfl, HVAL.out⟩, HBE.out⟩
end Go.Proofs.YtpcfhiipkbpmkaaDoor
